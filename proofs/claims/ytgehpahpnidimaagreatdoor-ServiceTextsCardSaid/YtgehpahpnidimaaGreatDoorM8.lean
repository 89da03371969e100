/-
  The size of a table as a known function;a right hall as a known answer.
-/
import Derived.Test.YtgehpahpnidimaaGreatDoorM7
import Derived.Test.YtgehpahpnidimaaGreatDoorM6
set_option linter.unusedSectionVars false
set_option linter.unusedSimpArgs false
set_option linter.unusedVariables false
set_option maxRecDepth 100000
namespace Go.Proofs.Xx
open Go Go.RowKit
def XQ (X:Extern):Extern:=fun g args h=>match Nat.beq g 192,args with
 | true,[.agg cs]=>match cs.toList with
  | [.string _,.int .u8 s,.int .i64 a,.int .i64 b,.slice p n c,.int .i64 x,.int .i64 y]=>some (.int .i64 (je s a b),h.lo0)
  | _=>X g args h
 | _,_=>X g args h
theorem Wv (k:IntKind) (n:Int):∀ e v',VR e (.int k n) v'→∀ e2,VR e2 (.int k n) v':=fun e v' q e2=>by cases q;exact .int k n
theorem Y2 {X:Extern} (hX:Xr Tryz.prog X):Xr Tryz.prog (XQ X):=by
 intro g args h u h1 hx B e w args' r hargs;unfold XQ at hx;split at hx
 ·rename_i cs hg
  have hg:=zA6 hg;subst hg;split at hx
  ·rename_i st s a b p n c x y hcs
   cases hx
   have ha:[Value.agg cs]=[ZZ ⟨st.data.toList,s,a,b,⟨p,n,c⟩,[],x,y⟩]:=by
    unfold ZZ eT;rw [← Array.toArray_toList (xs:=cs),hcs];rfl
   obtain ⟨n1,v1,h2,hc,rfl,x1⟩:=VE (Xh:=Xa) r.wf ⟨st.data.toList,s,a,b,⟨p,n,c⟩,[],x,y⟩;rw [← ha] at hc;exact CallOk.keep (QK WX XC (Jd follows WX XC n1)) hc (fun b hb=>x1.ext.old b hb) (Wv _ _) B e w args' r hargs
  ·exact hX _ _ _ _ _ hx B e w args' r hargs
 ·exact hX _ _ _ _ _ hx B e w args' r hargs
def int64? : Value→Option Int
 | .int .i64 n=>some n
 | _=>none
def ints? : List Value→Option (List Int)
 | []=>some []
 | v :: r=>match int64? v,ints? r with
  | some n,some l=>some (n :: l)
  | _,_=>none
theorem ints?_eq:∀ {l:List Value} {m:List Int},ints? l=some m→l=m.flatMap eI∧m.length=l.length
 | [],m,h=>by cases h;exact ⟨rfl,rfl⟩
 | v :: r,m,h=>by
  unfold ints? at h;split at h
  ·rename_i n l h1 h2
   cases h
   obtain ⟨e1,e2⟩:=ints?_eq h2;unfold int64? at h1;split at h1
   ·cases h1
    exact ⟨by rw [zG1,← e1];rfl,by simp [e2]⟩
   ·cases h1
  ·cases h
def Gp (h:AH):Option Addr→Nat→Nat→Option (List Int)
 | none,0,0=>some []
 | some ⟨b,o,none⟩,n,_=>match h.get b with
  | some (.cells cs _ _ _)=>match qU cs o n with
   | some l=>ints? l
   | none=>none
  | _=>none
 | _,_,_=>none
theorem P9 {h:AH} {p:Option Addr} {n c:Nat} {l:List Int} (q:Gp h p n c=some l):qY h (.slice p n c) 1 eI l:=by
 unfold Gp at q;split at q
 ·cases q;exact .inl ⟨rfl,rfl,rfl⟩
 ·split at q
  ·rename_i cs e s r hg
   split at q
   ·rename_i l2 ht
    obtain ⟨e1,e2⟩:=ints?_eq q;have hl:l2.length=n:=ZY ht;refine .inr ⟨_,_,_,cs,e,s,r,by rw [e2,hl],hg,?_⟩;rw [e2,hl,Nat.mul_one,← e1];exact ht
   ·cases q
  ·cases q
 ·cases q
def V8 (h:AH):Nat→List Value→Option (List Tab)
 | 0,[]=>some []
 | k+1,.string st :: .int .u8 s :: .int .i64 a :: .int .i64 b :: .slice p n c :: .int .i64 x :: .int .i64 y :: r=>match Gp h p n c,V8 h k r with
  | some o,some l=>some (⟨st.data.toList,s,a,b,⟨p,n,c⟩,o,x,y⟩ :: l)
  | _,_=>none
 | _,_=>none
theorem x9 {h:AH}:∀ {k:Nat} {cs:List Value} {l:List Tab},V8 h k cs=some l→cs=l.flatMap eT∧l.length=k∧∀ t∈l,qY h t.ov 1 eI t.opn
 | 0,cs,l,q=>by
  unfold V8 at q;split at q
  ·cases q;exact ⟨rfl,rfl,fun t ht=>by cases ht⟩
  ·rename_i h0;cases h0
  ·cases q
 | k+1,cs,l,q=>by
  unfold V8 at q;split at q
  ·rename_i h0;cases h0
  ·rename_i k' st s a b p n c x y r h0
   cases h0
   split at q
   ·rename_i o l2 h1 h2
    cases q
    obtain ⟨e1,e2,e3⟩:=x9 h2;refine ⟨by rw [zG1,← e1];rfl,by simp [e2],fun t ht=>?_⟩;rcases zE7.1 ht with rfl|ht
    ·exact P9 h1
    ·exact e3 t ht
   ·cases q
  ·cases q
def qbe (h:AH):Value→Option (List Tab)
 | .slice (some ⟨b,o,none⟩) n _=>match h.get b with
  | some (.cells cs _ _ _)=>match qU cs o (n*7) with
   | some l=>V8 h n l
   | none=>none
  | _=>none
 | _=>none
theorem qbc {h:AH} {v:Value} {l:List Tab} (q:qbe h v=some l):qY h v 7 eT l∧∀ t∈l,qY h t.ov 1 eI t.opn:=by
 unfold qbe at q;split at q
 ·split at q
  ·rename_i cs e s r hg
   split at q
   ·rename_i l2 ht
    obtain ⟨e1,e2,e3⟩:=x9 q;refine ⟨.inr ⟨_,_,_,cs,e,s,r,by rw [e2],hg,?_⟩,e3⟩;rw [e2,← e1];exact ht
   ·cases q
  ·cases q
 ·cases q
def okO (n:Int):Int→List Int→Bool
 | _,[]=>true
 | lo,x :: r=>decide (lo<x) && (decide (x<n) && okO n x r)
theorem qbr {n:Int}:∀ {l:List Int} {lo:Int},okO n lo l=true→∀ i,i<l.length→lo<l.getD i default∧l.getD i default<n∧(0<i→l.getD (i - 1) default<l.getD i default)
 | [],lo,h,i,hi=>absurd hi (zB7 _)
 | x :: r,lo,h,i,hi=>by
  unfold okO at h;simp only [zA8,decide_eq_true_eq] at h;obtain ⟨h1,h2,h3⟩:=h;have ih:=qbr h3;cases i with
  | zero=>exact ⟨h1,h2,fun q=>absurd q (Nat.lt_irrefl _)⟩
  | succ i =>
   obtain ⟨q1,q2,q3⟩:=ih i (by simpa using hi);refine ⟨Int.lt_trans h1 q1,q2,fun _=>?_⟩;cases i with
   | zero=>exact q1
   | succ i=>exact q3 (Nat.succ_pos _)
def okT (t:Tab):Bool:=(decide (1≤t.name.length) && (decide (t.name.length≤12) && t.name.all fun x=>decide (97≤x.toNat) && decide (x.toNat≤122))) && (!decide (zl t=0) && (okO (zl t) (-1) t.opn && (decide (0≤t.X) && (decide (t.X≤1000) && (decide (0≤t.Y) && (decide (t.Y≤1000) && decide (t.opn.length≤1000)))))))
theorem Gv {t:Tab} (h:okT t=true):chk t=0∧t.name.length≤1000∧t.opn.length≤1000:=by
 unfold okT at h;simp only [zA8,decide_eq_true_eq,zG2,decide_eq_false_iff_not,zC8] at h;obtain ⟨⟨h1,h2,h3⟩,h4,h5,h6,h7,h8,h9,h10⟩:=h;refine ⟨?_,by omega,h10⟩;have hn:Qg t.name:=⟨h1,h2,fun i hi=>h3 _ (by rw [zA2,zA4 hi];exact List.getElem_mem hi)⟩
 have ho:Vm (zl t) t.opn:=fun i hi=>by
  obtain ⟨q1,q2,q3⟩:=qbr h5 i hi;exact ⟨⟨by omega,q2⟩,q3⟩
 unfold chk;rw [if_neg (fun q=>q hn),if_neg h4,if_neg (fun q=>q ho),if_neg (fun q=>q ⟨h6,h7,h8,h9⟩)]
def okN:List Tab→Bool
 | []=>true
 | t :: r=>(r.all fun u=>!decide (t.name=u.name)) && okN r
theorem qbs:∀ {l:List Tab},okN l=true→∀ i j,i<j→j<l.length→(tb l i).name≠(tb l j).name
 | [],h,i,j,_,hj=>absurd hj (zB7 _)
 | t :: r,h,i,j,hij,hj=>by
  unfold okN at h;simp only [zA8,zC8,zG2,decide_eq_false_iff_not] at h;cases j with
  | zero=>exact absurd hij (zB7 _)
  | succ j =>
   cases i with
   | zero =>
    have hj':j<r.length:=by simpa using hj
    refine h.1 (tb r j) ?_;unfold tb;rw [zA2,zA4 hj'];exact List.getElem_mem hj'
   | succ i=>exact qbs h.2 i j (by omega) (by simpa using hj)
def qgu:Value→Bool
 | .slice _ n c=>Nat.ble n c
 | _=>true
def okH (v:Value) (l:List Tab):Bool:=Nat.ble l.length 16 && (l.all okT && (okN l && qgu v))
def XR (X:Extern):Extern:=fun g args h=>match Nat.beq g 152,args with
 | true,[v]=>match qbe h v with
  | some l=>match okH v l with
   | true=>some (.tuple #[.int .i64 0,.int .i64 0],h.lo0)
   | false=>X g args h
  | none=>X g args h
 | _,_=>X g args h
theorem Y3 {X:Extern} (hX:Xr Tryz.prog X):Xr Tryz.prog (XR X):=by
 intro g args h u h1 hx B e w args' r hargs;unfold XR at hx;split at hx
 ·rename_i v hg
  have hg:=zA6 hg;subst hg;split at hx
  ·rename_i l hl
   split at hx
   ·rename_i hk
    cases hx
    obtain ⟨r1,r2⟩:=qbc hl;unfold okH at hk;simp only [zA8,zC8] at hk;obtain ⟨k1,k2,k3,k4⟩:=hk;have k1:=zB6 k1;have mem:∀ i,i<l.length→tb l i∈l:=fun i hi=>by unfold tb;rw [zA2,zA4 hi];exact List.getElem_mem hi
    have hc:Qu v:=by
     cases v<;>first|exact zB6 k4|trivial
    have H:HallR h v l:=⟨r1,fun i hi=>⟨r2 _ (mem i hi),zD0 (Gv (k2 _ (mem i hi))).2.1 (by decide),zD0 (Gv (k2 _ (mem i hi))).2.2 (by decide)⟩,by omega,hc⟩
    have hv:∀ j,j<l.length→QQ l j:=fun j hj=>⟨(Gv (k2 _ (mem j hj))).1,fun ⟨i,hi,he⟩=>qbs k3 i j hi hj he⟩
    obtain ⟨n1,v1,h2,hc1,⟨i,e1,rfl,hk,x1⟩⟩:=JO (Xh:=Xa) r.wf v l H;obtain ⟨rfl,rfl⟩:=hk.uniq (i':=0) (e':=0) (.inr ⟨k1,.inr ⟨hv,rfl,rfl⟩⟩);refine CallOk.keep (QK WX XC (Jd follows WX XC n1)) hc1 (fun b hb=>x1.ext.old b hb) (fun e v' q e2=>?_) B e w args' r hargs;cases q with
    | tuple _ c' q =>
     refine .tuple [.int .i64 0,.int .i64 0] c' ?_;cases q with
     | cons _ _ _ _ q1 q2 =>
      cases q2 with
      | cons _ _ _ _ q3 q4 =>
       cases q4
       exact .cons _ _ _ _ (Wv _ _ _ _ q1 _) (.cons _ _ _ _ (Wv _ _ _ _ q3 _) .nil)
   ·exact hX _ _ _ _ _ hx B e w args' r hargs
  ·exact hX _ _ _ _ _ hx B e w args' r hargs
 ·exact hX _ _ _ _ _ hx B e w args' r hargs
end Go.Proofs.Xx
namespace Go.Proofs.Xx
open Go Go.RowKit
theorem qaB:(match jR Tryz.prog (XQ (XR Xa)) (exec Tryz.prog (XQ (XR Xa)) 3000) 8 [] ⟨.e,0,0⟩ with|some (.bool true,_)=>true | _=>false)=true:=by decide +kernel
def Xh:Extern:=ZC Xa 8 true
theorem qfX:Xr Tryz.prog Xh:=by
 have h:=qaB;split at h
 ·rename_i h' hc
  exact yE WX (QK (Y2 (Y3 WX)) XC (Jd follows (Y2 (Y3 WX)) XC 3000)) hc
 ·cases h
instance kxH:KX Xh:=⟨fun f args h q r=>by
 unfold Xh ZC;split
 ·rename_i hg
  exact absurd (zA6 hg) q
 ·exact r⟩
variable [Flag]
theorem qaC {h0:AH} (w:WfH h0):Fn Tryz.prog Xh 8 [] h0 (fun v h'=>v = .bool true∧Hs h0 h' []):=Zd rfl ⟨rfl,Hs.start w⟩
theorem y9 {h:AH} (s:List UInt8):Fn Tryz.prog Xh 316 [str s] h (fun v h'=>qI v (Qg s)∧h'=h):=by
 refine qF (by first|rfl|exact KX.no _ _ _ (by decide) rfl) Tryz.func316 rfl rfl ?_;all_goals (repeat' (first|refine qg ?_|refine qh rfl ?_|refine qj ?_|refine qx ?_|refine ql ?_|refine qZ ?_|refine zf ?_|(refine qc 0 ?_;refine mv ?_;refine qf ?_)|(refine qc 1 ?_;refine mv ?_;refine tl ?_;(first|refine cT ?_|refine cF ?_|(refine cS ?_ ?_<;>intro hc))<;>(refine mv ?_;(first|refine off ?_|refine mv ?_);(first|refine off ?_|refine tl ?_);(first|refine off ?_|(first|refine cT ?_|refine cF ?_|(refine cS ?_ ?_<;>intro hc)))<;>(refine vl ?_;refine qf ?_)))|(refine qc 2 ?_;refine mv ?_;refine qf ?_)))
 ·refine qi ⟨_,rfl,?_⟩;exact ⟨.inr ⟨rfl,fun q=>by have:=q.1;omega⟩,rfl⟩
 ·refine qi ⟨_,rfl,?_⟩;exact ⟨.inr ⟨rfl,fun q=>by have:=q.2.1;omega⟩,rfl⟩
 all_goals (repeat' (first|refine qg ?_|refine qh rfl ?_|refine qj ?_|refine qx ?_|refine ql ?_|refine qZ ?_|refine zf ?_|(refine qc 3 ?_;refine mv ?_;refine tl ?_;refine mv ?_;refine qf ?_)))
 refine qG (σ:=Nat) (fun i h'=>h'=h∧i≤s.length∧∀ j,j<i→QO (s.getD j default)) (fun i=>s.length - i) (fun i=>[(0,str s),(13,.int .i64 s.length),(14,.int .i64 i)]) 0 qw ?_ ?_
 ·exact ⟨rfl,zB0 _,fun j hj=>absurd hj (zB7 _)⟩
 rintro i h ⟨rfl,h1,h2⟩;all_goals (repeat' (first|refine qg ?_|refine qh rfl ?_|refine qj ?_|refine qx ?_|refine ql ?_|refine qZ ?_|refine zf ?_|(refine qc 4 ?_;(first|refine cT ?_|refine cF ?_|(refine cS ?_ ?_<;>intro hc))<;>(refine qf ?_))|(refine qc 5 ?_;refine mv ?_;refine mv ?_;refine qf ?_)|(refine qc 6 ?_;refine mv ?_;refine mv ?_;(first|refine ti ?_|refine vl ?_);(first|refine cT ?_|refine cF ?_|(refine cS ?_ ?_<;>intro hc))<;>(refine mv ?_;(first|refine off ?_|refine mv ?_);(first|refine off ?_|refine mv ?_);(first|refine off ?_|(first|refine ti ?_|refine vl ?_));(first|refine off ?_|(first|refine cT ?_|refine cF ?_|(refine cS ?_ ?_<;>intro hc)))<;>(refine vl ?_;refine qf ?_)))|(refine qc 7 ?_;refine mv ?_;refine qf ?_)|(refine qc 8 ?_;(first|refine ad ?_|refine vl ?_);refine mv ?_;refine qf ?_)|(refine qc 9 ?_;refine mv ?_;refine qf ?_)))
 all_goals (try simp only [zA0] at *)
 ·refine qi ⟨_,rfl,?_⟩;exact ⟨.inr ⟨rfl,fun q=>by have:=q.2.2 i (by omega);unfold QO at this;simp only [Qk] at this;omega⟩,rfl⟩
 ·refine qi ⟨_,rfl,?_⟩;exact ⟨.inr ⟨rfl,fun q=>by have:=q.2.2 i (by omega);unfold QO at this;simp only [Qk] at this;omega⟩,rfl⟩
 ·refine ⟨i+1,?_,?_,qw⟩
  ·show s.length - (i+1)<s.length - i;omega
  ·refine ⟨rfl,by omega,jr h2 ?_⟩;unfold QO;simp only [Qk];omega
 ·refine qi ⟨_,rfl,?_⟩;exact ⟨.inl ⟨rfl,by omega,by omega,fun j hj=>h2 j (by omega)⟩,rfl⟩
theorem yS {h:AH} (s:List UInt8):Fn Tryz.prog Xh 317 [str s] h (fun v h'=>qI v (X4 s)∧h'=h):=by
 refine qF (by first|rfl|exact KX.no _ _ _ (by decide) rfl) Tryz.func317 rfl rfl ?_;all_goals (repeat' (first|refine qg ?_|refine qh rfl ?_|refine qj ?_|refine qx ?_|refine ql ?_|refine qZ ?_|refine zf ?_|(refine qc 0 ?_;refine mv ?_;refine qf ?_)|(refine qc 1 ?_;refine mv ?_;(refine tS ?_ ?_<;>intro hc)<;>(refine mv ?_;(first|refine off ?_|refine mv ?_);(first|(refine off ?_;refine vl ?_;refine mv ?_;refine qf ?_)|skip)))))
 ·refine qi ⟨_,rfl,?_⟩;exact ⟨.inl ⟨rfl,.inl hc⟩,rfl⟩
 (refine qo rfl rfl rfl rfl rfl ((y9 s).mono ?_);rintro _ _ ⟨⟨rfl,hq⟩|⟨rfl,hq⟩,rfl⟩)<;>(refine vl ?_;refine mv ?_;refine qf ?_)
 all_goals (all_goals (repeat' (first|refine qg ?_|refine qh rfl ?_|refine qj ?_|refine qx ?_|refine ql ?_|refine qZ ?_|refine zf ?_)))
 all_goals (refine qi ⟨_,rfl,?_⟩)
 ·exact ⟨.inl ⟨rfl,.inr hq⟩,rfl⟩
 ·exact ⟨.inr ⟨rfl,fun q=>by rcases q with q|q;exact hc q;exact hq q⟩,rfl⟩
theorem Qx {h:AH} (s:List UInt8):Fn Tryz.prog Xh 211 [str s] h (fun v h'=>qI v (Qg s)∧h'=h):=by
 refine qF (by first|rfl|exact KX.no _ _ _ (by decide) rfl) Tryz.func211 rfl rfl ?_;all_goals (repeat' (first|refine qg ?_|refine qh rfl ?_|refine qj ?_|refine qx ?_|refine ql ?_|refine qZ ?_|refine zf ?_|(refine qc 0 ?_;refine mv ?_;refine qf ?_)|(refine qc 1 ?_;refine mv ?_;refine tl ?_;(first|refine cT ?_|refine cF ?_|(refine cS ?_ ?_<;>intro hc))<;>(refine mv ?_;(first|refine off ?_|refine mv ?_);(first|refine off ?_|refine tl ?_);(first|refine off ?_|(first|refine cT ?_|refine cF ?_|(refine cS ?_ ?_<;>intro hc)))<;>(refine vl ?_;refine qf ?_)))|(refine qc 2 ?_;refine mv ?_;refine qf ?_)))
 ·refine qi ⟨_,rfl,?_⟩;exact ⟨.inr ⟨rfl,fun q=>by have:=q.1;omega⟩,rfl⟩
 ·refine qi ⟨_,rfl,?_⟩;exact ⟨.inr ⟨rfl,fun q=>by have:=q.2.1;omega⟩,rfl⟩
 all_goals (repeat' (first|refine qg ?_|refine qh rfl ?_|refine qj ?_|refine qx ?_|refine ql ?_|refine qZ ?_|refine zf ?_|(refine qc 3 ?_;refine mv ?_;refine qf ?_)))
 refine qG (σ:=Nat) (fun i h'=>h'=h∧i≤s.length∧∀ j,j<i→QO (s.getD j default)) (fun i=>s.length - i) (fun i=>[(0,str s),(3,.int .i64 i)]) 0 qw ?_ ?_
 ·exact ⟨rfl,zB0 _,fun j hj=>absurd hj (zB7 _)⟩
 rintro i h ⟨rfl,h1,h2⟩;all_goals (repeat' (first|refine qg ?_|refine qh rfl ?_|refine qj ?_|refine qx ?_|refine ql ?_|refine qZ ?_|refine zf ?_|(refine qc 4 ?_;refine mv ?_;refine mv ?_;refine tl ?_;(first|refine cT ?_|refine cF ?_|(refine cS ?_ ?_<;>intro hc))<;>(refine qf ?_))|(refine qc 5 ?_;refine mv ?_;(first|refine ad ?_|refine vl ?_);refine mv ?_;refine qf ?_)|(refine qc 6 ?_;refine mv ?_;refine mv ?_;(first|refine ti ?_|refine vl ?_);(first|refine cT ?_|refine cF ?_|(refine cS ?_ ?_<;>intro hc))<;>(refine mv ?_;(first|refine off ?_|refine mv ?_);(first|refine off ?_|refine mv ?_);(first|refine off ?_|(first|refine ti ?_|refine vl ?_));(first|refine off ?_|(first|refine cT ?_|refine cF ?_|(refine cS ?_ ?_<;>intro hc)))<;>(refine vl ?_;refine qf ?_)))|(refine qc 7 ?_;refine mv ?_;refine qf ?_)|(refine qc 8 ?_;refine mv ?_;refine qf ?_)))
 all_goals (try simp only [zA0] at *)
 ·refine qi ⟨_,rfl,?_⟩;exact ⟨.inr ⟨rfl,fun q=>by have:=q.2.2 i (by omega);unfold QO at this;simp only [Qk] at this;omega⟩,rfl⟩
 ·refine qi ⟨_,rfl,?_⟩;exact ⟨.inr ⟨rfl,fun q=>by have:=q.2.2 i (by omega);unfold QO at this;simp only [Qk] at this;omega⟩,rfl⟩
 ·refine ⟨i+1,?_,?_,qw⟩
  ·show s.length - (i+1)<s.length - i;omega
  ·refine ⟨rfl,by omega,jr h2 ?_⟩;unfold QO;simp only [Qk];omega
 ·refine qi ⟨_,rfl,?_⟩;exact ⟨.inl ⟨rfl,by omega,by omega,fun j hj=>h2 j (by omega)⟩,rfl⟩
end Go.Proofs.Xx
namespace Go.Proofs.Xx
open Go Go.Proofs
structure Gu where
 name:List UInt8
 rank:List UInt8
 court:List UInt8
 since:Int
 side:Int
 diet:List UInt8
 host:Bool
 access:Bool
 tg:List (List UInt8)
instance:Inhabited Gu:=⟨⟨[],[],[],0,0,[],false,false,[]⟩⟩
structure Zf extends Gu where
 tv:SlV
instance:Inhabited Zf:=⟨⟨default,⟨none,0,0⟩⟩⟩
def gV (g:Zf):Value:=.agg #[str g.name,str g.rank,str g.court,.int .i64 g.since,.int .i64 g.side,str g.diet,.bool g.host,.bool g.access,g.tv.val]
def eG (g:Zf):List Value:=[str g.name,str g.rank,str g.court,.int .i64 g.since,.int .i64 g.side,str g.diet,.bool g.host,.bool g.access,g.tv.val]
def qeQ (h:AH) (g:Zf):Prop:=qY h g.tv.val 1 eS g.tg∧g.tg.length≤9223372036854775807
def qdp (l:List (List UInt8)):Prop:=∀ i,i<l.length→Qg (l.getD i default)∧(0<i→jT (l.getD (i - 1) default) (l.getD i default))
def JR (g:Gu):Prop:=Qg g.name∧X4 g.rank∧X4 g.court∧X4 g.diet
open Classical in
noncomputable def Qs (g:Gu):Int :=
 if ¬ JR g then 4
 else if ¬ (0≤g.since∧g.since≤9999) then 21
 else if ¬ (0≤g.side∧g.side≤2) then 20
 else if ¬ (g.tg.length≤4∧qdp g.tg) then 22
 else 0
theorem qbV {g:Gu} (h:¬ JR g):Qs g=4:=by unfold Qs;rw [if_pos h]
theorem Px {g:Gu} (h:JR g) (h2:¬ (0≤g.since∧g.since≤9999)):Qs g=21:=by unfold Qs;rw [if_neg (by simpa using h),if_pos h2]
theorem Py {g:Gu} (h:JR g) (h2:0≤g.since∧g.since≤9999) (h3:¬ (0≤g.side∧g.side≤2)):Qs g=20:=by
 unfold Qs;rw [if_neg (by simpa using h),if_neg (by simpa using h2),if_pos h3]
theorem J4 {g:Gu} (h:JR g) (h2:0≤g.since∧g.since≤9999) (h3:0≤g.side∧g.side≤2) (h4:¬ (g.tg.length≤4∧qdp g.tg)):Qs g=22:=by
 unfold Qs;rw [if_neg (by simpa using h),if_neg (by simpa using h2),if_neg (by simpa using h3),if_pos h4]
theorem qbW {g:Gu} (h:JR g) (h2:0≤g.since∧g.since≤9999) (h3:0≤g.side∧g.side≤2) (h4:g.tg.length≤4∧qdp g.tg):Qs g=0:=by
 unfold Qs;rw [if_neg (by simpa using h),if_neg (by simpa using h2),if_neg (by simpa using h3),if_neg (by simpa using h4)]
variable [Flag]
theorem qbY {h0:AH} (w:WfH h0) (g:Zf) (r:qeQ h0 g):Fn Tryz.prog Xh 296 [gV g] h0 (fun v h'=>v = .int .i64 (Qs g.toGu)∧Hs h0 h' []):=by
 have S:=Hs.start w;have hr:qY h0 g.tv.val 1 eS g.tg:=r.1;have hbig:=r.2;unfold gV;refine qF (by first|rfl) Tryz.func296 rfl rfl ?_;all_goals (repeat' (first|refine qg ?_|refine ql ?_|(refine qc 0 ?_;(refine bx S ?_;clear S;intro b h S);refine mv ?_;refine qf ?_)))
 all_goals (repeat' (first|(refine qc 1 ?_;refine vl ?_;refine lB S rfl rfl ?_)))
 (refine qo rfl rfl rfl rfl rfl ((y9 g.name).mono ?_);rintro _ _ ⟨⟨rfl,q1⟩|⟨rfl,q1⟩,rfl⟩)<;>(refine vl ?_;refine mv ?_;(first|refine off ?_|(refine vl ?_));(first|refine off ?_|(refine lB S rfl rfl ?_));(first|(refine off ?_;refine off ?_;refine vl ?_;refine mv ?_;refine off ?_;refine off ?_;(first|(refine off ?_;refine off ?_;refine vl ?_;refine mv ?_;refine off ?_;refine off ?_;(first|(refine off ?_;refine off ?_;refine vl ?_;refine mv ?_;refine qf ?_)))))|skip))
 any_goals ((refine qo rfl rfl rfl rfl rfl ((yS g.rank).mono ?_);rintro _ _ ⟨⟨rfl,q2⟩|⟨rfl,q2⟩,rfl⟩)<;>((refine vl ?_);refine vl ?_;refine mv ?_;(first|refine off ?_|(refine vl ?_));(first|refine off ?_|(refine lB S rfl rfl ?_));(first|(refine off ?_;refine off ?_;refine vl ?_;refine mv ?_;refine off ?_;refine off ?_;(first|(refine off ?_;refine off ?_;refine vl ?_;refine mv ?_;refine qf ?_)))|skip)))
 any_goals ((refine qo rfl rfl rfl rfl rfl ((yS g.court).mono ?_);rintro _ _ ⟨⟨rfl,q3⟩|⟨rfl,q3⟩,rfl⟩)<;>((refine vl ?_);refine vl ?_;refine mv ?_;(first|refine off ?_|(refine vl ?_));(first|refine off ?_|(refine lB S rfl rfl ?_));(first|(refine off ?_;refine off ?_;refine vl ?_;refine mv ?_;refine qf ?_)|skip)))
 any_goals ((refine qo rfl rfl rfl rfl rfl ((yS g.diet).mono ?_);rintro _ _ ⟨⟨rfl,q4⟩|⟨rfl,q4⟩,rfl⟩)<;>((refine vl ?_);refine vl ?_;refine mv ?_;refine qf ?_))
 all_goals (repeat' (first|refine qg ?_|refine qh rfl ?_|refine qj ?_|refine ql ?_|(refine qc 2 ?_;refine mv ?_;refine qf ?_)|(refine qc 3 ?_;refine vl ?_;refine lB S rfl rfl ?_;(first|(refine cS ?_ ?_<;>intro hc))<;>(refine mv ?_;(first|refine off ?_|(refine vl ?_));(first|refine off ?_|(refine lB S rfl rfl ?_));(first|refine off ?_|(first|(refine cS ?_ ?_<;>intro hc)))<;>(refine vl ?_;refine mv ?_;refine qf ?_)))|(refine qc 4 ?_;refine mv ?_;refine qf ?_)|(refine qc 5 ?_;refine vl ?_;refine lB S rfl rfl ?_;(first|(refine cS ?_ ?_<;>intro hc))<;>(refine mv ?_;(first|refine off ?_|(refine vl ?_));(first|refine off ?_|(refine lB S rfl rfl ?_));(first|refine off ?_|(first|(refine cS ?_ ?_<;>intro hc)))<;>(refine vl ?_;refine mv ?_;refine qf ?_)))|(refine qc 6 ?_;refine mv ?_;refine qf ?_)|(refine qc 7 ?_;refine vl ?_;refine lB S rfl rfl ?_;refine zT S ?_;(first|(refine cS ?_ ?_<;>intro hc))<;>(refine mv ?_;refine qf ?_))|(refine qc 8 ?_;refine mv ?_;refine qf ?_)|(refine qc 9 ?_;refine vl ?_;refine lB S rfl rfl ?_;refine zT S ?_;refine mv ?_;refine qf ?_)))
 any_goals
  refine qi ⟨_,rfl,?_⟩;refine ⟨?_,S.drop⟩;first
   | (rw [qbV (fun q=>by unfold JR at q;grind)];rfl)
   | (rw [Px ⟨q1,q2,q3,q4⟩ (by omega)];rfl)
   | (rw [Py ⟨q1,q2,q3,q4⟩ (by omega) (by omega)];rfl)
   | (rw [J4 ⟨q1,q2,q3,q4⟩ (by omega) (by omega) (fun q=>by have:=q.1;omega)];rfl)
 have h1:0≤g.since∧g.since≤9999:=by omega
 have h2:0≤g.side∧g.side≤2:=by omega
 have h3:g.tg.length≤4:=by omega
 refine qG (σ:=Nat) (fun i h'=>Hs h0 h' [.blk b (eG g) 125]∧i≤g.tg.length∧∀ j,j<i→Qg (g.tg.getD j default)∧(0<j→jT (g.tg.getD (j - 1) default) (g.tg.getD j default))) (fun i=>g.tg.length - i) (fun i=>[(1,.pointer (some ⟨b,0,none⟩)),(52,g.tv.val),(53,.int .i64 g.tg.length),(54,.int .i64 i)]) 0 qw ?_ ?_
 ·exact ⟨S,zB0 _,fun j hj=>absurd hj (zB7 _)⟩
 clear S;rintro i h ⟨S,g1,g2⟩;all_goals (repeat' (first|refine qg ?_|refine qh rfl ?_|refine qj ?_|refine qx ?_|refine ql ?_|(refine qc 10 ?_;(first|(refine cS ?_ ?_<;>intro hc))<;>(refine qf ?_))|(refine qc 11 ?_;refine mv ?_;refine jB S ?_;refine jA S ?_;refine mv ?_;refine mv ?_;refine qf ?_)|(refine qc 12 ?_;refine mv ?_)|(refine qc 15 ?_;refine mv ?_;refine qf ?_)))
 ·(try simp only [zA0] at *)
  (refine qo rfl rfl rfl rfl rfl ((y9 _).mono ?_);rintro _ _ ⟨⟨rfl,q5⟩|⟨rfl,q5⟩,rfl⟩)<;>(refine vl ?_;refine mv ?_;(first|refine off ?_|refine mv ?_);(first|refine off ?_|(first|(refine cS ?_ ?_<;>intro hc)))<;>((first|refine off ?_|refine mv ?_);(first|refine off ?_|(refine vl ?_));(first|refine off ?_|(refine lB S rfl rfl ?_));(first|refine off ?_|refine mv ?_);(first|refine off ?_|(refine sb ?_));(first|refine off ?_|(refine jB S ?_));(first|refine off ?_|(refine jA S ?_));(first|refine off ?_|refine mv ?_);(first|refine off ?_|(refine tO ?_ ?_<;>intro hc))<;>((first|refine off ?_|refine vl ?_);refine vl ?_;refine qf ?_)))
  all_goals (all_goals (repeat' (first|refine qg ?_|refine qh rfl ?_|refine qj ?_|(refine qc 13 ?_;refine mv ?_;refine qf ?_)|(refine qc 14 ?_;refine ad ?_;refine mv ?_;refine qf ?_))))
  ·refine qi ⟨_,rfl,?_⟩;rw [show ((i:Int) - 1).toNat=i - 1 by omega] at hc;exact ⟨by rw [J4 ⟨q1,q2,q3,q4⟩ h1 h2 (fun q=>hc ((q.2 i (by omega)).2 (by omega)))];rfl,S.drop⟩
  ·rw [show ((i:Int) - 1).toNat=i - 1 by omega] at hc;refine ⟨i+1,?_,?_,qw⟩
   ·show g.tg.length - (i+1)<g.tg.length - i;omega
   ·exact ⟨S,by omega,jr g2 ⟨q5,fun _=>zF2.1 hc⟩⟩
  ·refine ⟨i+1,?_,?_,qw⟩
   ·show g.tg.length - (i+1)<g.tg.length - i;omega
   ·exact ⟨S,by omega,jr g2 ⟨q5,fun q=>by omega⟩⟩
  ·refine qi ⟨_,rfl,?_⟩;exact ⟨by rw [J4 ⟨q1,q2,q3,q4⟩ h1 h2 (fun q=>q5 (q.2 i (by omega)).1)];rfl,S.drop⟩
 ·refine qi ⟨_,rfl,?_⟩;exact ⟨by rw [qbW ⟨q1,q2,q3,q4⟩ h1 h2 ⟨h3,fun j hj=>g2 j (by omega)⟩];rfl,S.drop⟩
theorem kJ {h0:AH} (w:WfH h0) (g:Zf) (r:qeQ h0 g):Fn Tryz.prog Xh 256 [gV g] h0 (fun v h'=>v = .int .i64 (Qs g.toGu)∧Hs h0 h' []):=by
 have S:=Hs.start w;have hr:qY h0 g.tv.val 1 eS g.tg:=r.1;have hbig:=r.2;unfold gV;refine qF (by first|rfl) Tryz.func256 rfl rfl ?_;all_goals (repeat' (first|refine qg ?_|(refine qc 0 ?_;(refine bx S ?_;clear S;intro b h S);refine mv ?_;refine qf ?_)))
 (repeat (refine qg ?_));first|refine zL (σ:=Unit) (fun _ h'=>JR g.toGu∧Hs h0 h' [.blk b (eG g) 125]) (fun _=>[(1,.pointer (some ⟨b,0,none⟩))]) ?_ ?_
 ·all_goals (repeat' (first|(refine qc 1 ?_;refine vl ?_;refine lB S rfl rfl ?_)))
  (refine qo rfl rfl rfl rfl rfl ((Qx g.name).mono ?_);rintro _ _ ⟨⟨rfl,q1⟩|⟨rfl,q1⟩,rfl⟩)<;>(refine vl ?_;refine mv ?_;(first|refine off ?_|(refine vl ?_));(first|refine off ?_|(refine lB S rfl rfl ?_));(first|refine off ?_|(refine tS ?_ ?_<;>intro hc))<;>((first|refine off ?_|refine mv ?_);(first|refine off ?_|(refine vl ?_));(first|refine off ?_|(refine lB S rfl rfl ?_));(first|(refine off ?_;refine off ?_;(first|refine off ?_|refine vl ?_);refine vl ?_;refine mv ?_;(first|refine off ?_|(refine vl ?_));(first|refine off ?_|(refine lB S rfl rfl ?_));(first|refine off ?_|(refine tS ?_ ?_<;>intro hc))<;>((first|refine off ?_|refine mv ?_);(first|refine off ?_|(refine vl ?_));(first|refine off ?_|(refine lB S rfl rfl ?_));(first|(refine off ?_;refine off ?_;(first|refine off ?_|refine vl ?_);refine vl ?_;refine mv ?_;(first|refine off ?_|(refine vl ?_));(first|refine off ?_|(refine lB S rfl rfl ?_));(first|refine off ?_|(refine tS ?_ ?_<;>intro hc))<;>((first|refine off ?_|refine mv ?_);(first|refine off ?_|(refine vl ?_));(first|refine off ?_|(refine lB S rfl rfl ?_));(first|(refine off ?_;refine off ?_;(first|refine off ?_|refine vl ?_);refine vl ?_;refine qf ?_)|skip)))|skip)))|skip)))
  any_goals ((refine qo rfl rfl rfl rfl rfl ((Qx g.rank).mono ?_);rintro _ _ ⟨⟨rfl,q2⟩|⟨rfl,q2⟩,rfl⟩)<;>((refine vl ?_);refine vl ?_;refine vl ?_;refine mv ?_;(first|refine off ?_|(refine vl ?_));(first|refine off ?_|(refine lB S rfl rfl ?_));(first|refine off ?_|(refine tS ?_ ?_<;>intro hc))<;>((first|refine off ?_|refine mv ?_);(first|refine off ?_|(refine vl ?_));(first|refine off ?_|(refine lB S rfl rfl ?_));(first|(refine off ?_;refine off ?_;(first|refine off ?_|refine vl ?_);refine vl ?_;refine mv ?_;(first|refine off ?_|(refine vl ?_));(first|refine off ?_|(refine lB S rfl rfl ?_));(first|refine off ?_|(refine tS ?_ ?_<;>intro hc))<;>((first|refine off ?_|refine mv ?_);(first|refine off ?_|(refine vl ?_));(first|refine off ?_|(refine lB S rfl rfl ?_));(first|(refine off ?_;refine off ?_;(first|refine off ?_|refine vl ?_);refine vl ?_;refine qf ?_)|skip)))|skip))))
  any_goals ((refine qo rfl rfl rfl rfl rfl ((Qx g.court).mono ?_);rintro _ _ ⟨⟨rfl,q3⟩|⟨rfl,q3⟩,rfl⟩)<;>((refine vl ?_);refine vl ?_;refine vl ?_;refine mv ?_;(first|refine off ?_|(refine vl ?_));(first|refine off ?_|(refine lB S rfl rfl ?_));(first|refine off ?_|(refine tS ?_ ?_<;>intro hc))<;>((first|refine off ?_|refine mv ?_);(first|refine off ?_|(refine vl ?_));(first|refine off ?_|(refine lB S rfl rfl ?_));(first|(refine off ?_;refine off ?_;(first|refine off ?_|refine vl ?_);refine vl ?_;refine qf ?_)|skip))))
  any_goals ((refine qo rfl rfl rfl rfl rfl ((Qx g.diet).mono ?_);rintro _ _ ⟨⟨rfl,q4⟩|⟨rfl,q4⟩,rfl⟩)<;>((refine vl ?_);refine vl ?_;refine vl ?_;refine qf ?_))
  all_goals (all_goals (repeat' (first|refine qg ?_|refine qh rfl ?_|refine qj ?_|(refine qc 2 ?_;refine mv ?_;refine qf ?_))))
  any_goals
   refine qi ⟨_,rfl,?_⟩;refine ⟨?_,S.drop⟩;rw [qbV (fun q=>by unfold JR X4 at q;grind)];rfl
  all_goals exact ⟨(),⟨by unfold JR X4;grind,S⟩,(qw)⟩
 clear S;rintro - h ⟨hN,S⟩;all_goals (repeat' (first|refine qg ?_|refine qh rfl ?_|refine qj ?_|(refine qc 3 ?_;refine vl ?_;refine lB S rfl rfl ?_;(first|(refine cS ?_ ?_<;>intro hc))<;>(refine mv ?_;(first|refine off ?_|(refine vl ?_));(first|refine off ?_|(refine lB S rfl rfl ?_));(first|refine off ?_|(first|(refine cS ?_ ?_<;>intro hc)))<;>(refine vl ?_;refine qf ?_)))|(refine qc 4 ?_;refine mv ?_;refine qf ?_)))
 any_goals
  refine qi ⟨_,rfl,?_⟩;refine ⟨?_,S.drop⟩;rw [Px hN (by omega)];rfl
 have h1:0≤g.since∧g.since≤9999:=by omega
 (repeat (refine qg ?_));first|refine zL (σ:=Unit) (fun _ h'=>(0≤g.side∧g.side≤2)∧Hs h0 h' [.blk b (eG g) 125]) (fun _=>[(1,.pointer (some ⟨b,0,none⟩))]) ?_ ?_
 ·all_goals (repeat' (first|refine qg ?_|refine qh rfl ?_|refine qj ?_|(refine qc 5 ?_;refine vl ?_;refine lB S rfl rfl ?_;(first|(refine cS ?_ ?_<;>intro hc))<;>(refine mv ?_;(first|refine off ?_|(refine vl ?_));(first|refine off ?_|(refine lB S rfl rfl ?_));(first|refine off ?_|(first|(refine cS ?_ ?_<;>intro hc)))<;>(refine vl ?_;refine mv ?_;(first|refine off ?_|(refine vl ?_));(first|refine off ?_|(refine lB S rfl rfl ?_));(first|refine off ?_|(first|(refine cS ?_ ?_<;>intro hc)))<;>(refine vl ?_;refine qf ?_))))|(refine qc 6 ?_;refine mv ?_;refine qf ?_)))
  any_goals
   refine qi ⟨_,rfl,?_⟩;refine ⟨?_,S.drop⟩;rw [Py hN h1 (by omega)];rfl
  all_goals exact ⟨(),⟨by omega,S⟩,(qw)⟩
 clear S;rintro - h ⟨h2,S⟩;all_goals (repeat' (first|refine qg ?_|refine qh rfl ?_|refine qj ?_|refine ql ?_|(refine qc 7 ?_;refine vl ?_;refine lB S rfl rfl ?_;refine zT S ?_;(first|(refine cS ?_ ?_<;>intro hc))<;>(refine qf ?_))|(refine qc 8 ?_;refine mv ?_;refine qf ?_)|(refine qc 9 ?_;refine mv ?_;refine qf ?_)))
 ·refine qi ⟨_,rfl,?_⟩;refine ⟨?_,S.drop⟩;rw [J4 hN h1 h2 (fun q=>by have:=q.1;omega)];rfl
 have h3:g.tg.length≤4:=by omega
 refine qG (σ:=Nat) (fun i h'=>Hs h0 h' [.blk b (eG g) 125]∧i≤g.tg.length∧∀ j,j<i→Qg (g.tg.getD j default)∧(0<j→jT (g.tg.getD (j - 1) default) (g.tg.getD j default))) (fun i=>g.tg.length - i) (fun i=>[(1,.pointer (some ⟨b,0,none⟩)),(3,.int .i64 i)]) 0 qw ?_ ?_
 ·exact ⟨S,zB0 _,fun j hj=>absurd hj (zB7 _)⟩
 clear S;rintro i h ⟨S,g1,g2⟩;all_goals (repeat' (first|refine qg ?_|refine qh rfl ?_|refine qj ?_|refine qx ?_|refine ql ?_|(refine qc 10 ?_;refine mv ?_;refine vl ?_;refine lB S rfl rfl ?_;refine zT S ?_;(first|(refine cS ?_ ?_<;>intro hc))<;>(refine qf ?_))|(refine qQ 12 ?_;refine vl ?_;refine lB S rfl rfl ?_;refine mv ?_;refine jB S ?_;refine jA S ?_)|(refine qc 14 ?_;refine mv ?_;refine qf ?_)))
 ·(try simp only [zA0] at *)
  (refine qo rfl rfl rfl rfl rfl ((Qx _).mono ?_);rintro _ _ ⟨⟨rfl,q5⟩|⟨rfl,q5⟩,rfl⟩)<;>(refine vl ?_;refine mv ?_;(first|refine off ?_|refine mv ?_);(first|refine off ?_|(first|(refine cS ?_ ?_<;>intro hc)))<;>((first|refine off ?_|refine mv ?_);(first|refine off ?_|(refine vl ?_));(first|refine off ?_|(refine lB S rfl rfl ?_));(first|refine off ?_|refine mv ?_);(first|refine off ?_|(refine jB S ?_));(first|refine off ?_|(refine jA S ?_));(first|refine off ?_|(refine vl ?_));(first|refine off ?_|(refine lB S rfl rfl ?_));(first|refine off ?_|refine mv ?_);(first|refine off ?_|(refine sb ?_));(first|refine off ?_|(refine jB S ?_));(first|refine off ?_|(refine jA S ?_));(first|refine off ?_|(refine tO ?_ ?_<;>intro hc))<;>((first|refine off ?_|refine vl ?_);refine vl ?_;refine qf ?_)))
  all_goals (all_goals (repeat' (first|refine qg ?_|refine qh rfl ?_|refine qj ?_|(refine qc 11 ?_;refine mv ?_;refine ad ?_;refine mv ?_;refine qf ?_)|(refine qc 13 ?_;refine mv ?_;refine qf ?_))))
  ·refine qi ⟨_,rfl,?_⟩;rw [show ((i:Int) - 1).toNat=i - 1 by omega] at hc;exact ⟨by rw [J4 hN h1 h2 (fun q=>hc ((q.2 i (by omega)).2 (by omega)))];rfl,S.drop⟩
  ·rw [show ((i:Int) - 1).toNat=i - 1 by omega] at hc;refine ⟨i+1,?_,?_,qw⟩
   ·show g.tg.length - (i+1)<g.tg.length - i;omega
   ·exact ⟨S,by omega,jr g2 ⟨q5,fun _=>zF2.1 hc⟩⟩
  ·refine ⟨i+1,?_,?_,qw⟩
   ·show g.tg.length - (i+1)<g.tg.length - i;omega
   ·exact ⟨S,by omega,jr g2 ⟨q5,fun q=>by omega⟩⟩
  ·refine qi ⟨_,rfl,?_⟩;exact ⟨by rw [J4 hN h1 h2 (fun q=>q5 (q.2 i (by omega)).1)];rfl,S.drop⟩
 ·refine qi ⟨_,rfl,?_⟩;exact ⟨by rw [qbW hN h1 h2 ⟨h3,fun j hj=>g2 j (by omega)⟩];rfl,S.drop⟩
end Go.Proofs.Xx
namespace Go.Proofs.Xx
open Go
def Star (h:AH):List Rs→Fp→Prop
 | [],_=>True
 | r :: rs,U=>∃ fp:Fp,r.ok h fp∧(∀ b,fp b→U b)∧Star h rs (fun b=>U b∧¬ fp b)
theorem Star.mono {h:AH}:∀ {rs:List Rs} {U U':Fp},(∀ b,U b→U' b)→Star h rs U→Star h rs U'
 | [],_,_,_,_=>trivial
 | r :: rs,U,U',hu,⟨fp,h1,h2,h3⟩=>⟨fp,h1,fun b hb=>hu b (h2 b hb),h3.mono fun b hb=>⟨hu b hb.1,hb.2⟩⟩
theorem Star.local {h h':AH}:∀ {rs:List Rs} {U:Fp},Star h rs U→(∀ b,U b→h'.get b=h.get b)→Star h' rs U
 | [],_,_,_=>trivial
 | r :: rs,U,⟨fp,h1,h2,h3⟩,hs=>⟨fp,h1.local fun b hb=>hs b (h2 b hb),h2,h3.local fun b hb=>hs b hb.1⟩
theorem Star.sep {lo:Nat} {h:AH} {rs:List Rs}:∀ {l:List Rs} {U V:Fp},Star h l U→(∀ b,U b→lo≤b∧b<h.next∧V b)→Sep lo h rs (fun b=>V b∧¬ U b)→Sep lo h (l ++ rs) V
 | [],U,V,_,_,k=>k.mono fun b hb=>hb.1
 | r :: l,U,V,⟨fp,h1,h2,h3⟩,hu,k=>⟨fp,h1,fun b hb=>hu b (h2 b hb),h3.sep (fun b hb=>⟨(hu b hb.1).1,(hu b hb.1).2.1,(hu b hb.1).2.2,hb.2⟩) (k.mono fun b hb=>⟨⟨hb.1,fun q=>hb.2 (h2 b q)⟩,fun q=>hb.2 q.1⟩)⟩
theorem Sep.star {lo:Nat} {h:AH} {rs:List Rs}:∀ {l:List Rs} {V:Fp},Sep lo h (l ++ rs) V→∃ U:Fp,Star h l U∧(∀ b,U b→lo≤b∧b<h.next∧V b)∧Sep lo h rs (fun b=>V b∧¬ U b)
 | [],V,k=>⟨fun _=>False,trivial,fun b hb=>hb.elim,k.mono fun b hb=>⟨hb,id⟩⟩
 | r :: l,V,⟨fp,h1,h2,h3⟩=>by
  obtain ⟨U,k1,k2,k3⟩:=h3.star;refine ⟨fun b=>fp b∨U b,⟨fp,h1,fun b hb=>.inl hb,k1.mono fun b hb=>⟨.inr hb,(k2 b hb).2.2.2⟩⟩,fun b hb=>?_,k3.mono fun b hb=>⟨hb.1.1,fun q=>?_⟩⟩
  ·rcases hb with hb|hb
   ·exact h2 b hb
   ·exact ⟨(k2 b hb).1,(k2 b hb).2.1,(k2 b hb).2.2.1⟩
  ·rcases q with q|q
   ·exact hb.1.2 q
   ·exact hb.2 q
abbrev qbo {σ:Type} (φ:σ→Prop) (f:σ→List Rs):Rs:=.any (fun h fp=>∃ s,φ s∧Star h (f s) fp)
theorem Hs.unpack {σ:Type} {φ:σ→Prop} {f:σ→List Rs} {h0 h:AH} {rs:List Rs} (S:Hs h0 h (qbo φ f :: rs)):∃ s,φ s∧Hs h0 h (f s ++ rs):=by
 obtain ⟨fp,k1,k2,k3⟩:=S.sep;obtain ⟨s,hs,hst⟩:=k1 h fun _ _=>rfl;exact ⟨s,hs,S.ext,hst.sep k2 k3⟩
theorem Hs.pack {σ:Type} {φ:σ→Prop} {f:σ→List Rs} {h0 h:AH} {rs:List Rs} (s:σ) (hs:φ s) (S:Hs h0 h (f s ++ rs)):Hs h0 h (qbo φ f :: rs):=by
 obtain ⟨U,k1,k2,k3⟩:=S.sep.star;exact ⟨S.ext,U,fun h' q=>⟨s,hs,k1.local q⟩,k2,k3⟩
section
variable {P:Program} {X:Extern} {sz:Nat} {L:Ks} {h h0:AH} {rs:List Rs} {ops:Array Oper} {os:List Oper} {o:Oper} {R:Ks→AH→Prop}
theorem tk {α:Type} {x hi:Operand} {ty e:TypeId} {v vh:Value} {z:Nat} {enc:α→List Value} {l:List α} {f:Rs→List Rs} {dd:List Rs} {d:Tmp} (b:Nat) (S:Hs h0 h rs) (ho:o.op = .slice ty x none (some hi) none) (hx:kA L x=some v) [i:HasS rs v α e z enc l f dd]
 (w:∀ v',Hs h0 h (f (.sl v' e z enc (l.take b)))→KO P X sz ops os (L.put d v') h R) (hg:qm ops L.tree o.guard=some true:=by exact rfl) (hhi:kA L hi=some vh:=by exact rfl) (hbo:qP (some vh) l.length=some b:=by exact rfl) (hb:b≤l.length:=by first|omega|grind)
 (hz:∀ x,(enc x).length=z:=by intro _;rfl) (hu:QT P ty=some z:=by exact rfl) (hdst:o.dst=some d:=by exact rfl) (hds:Nat.blt d sz=true:=by exact rfl):KO P X sz ops (o :: os) L h R:=by
 obtain ⟨fp,k1,k2,-⟩:=(i.ut (.sl v e z enc l)).ok (h':=h) S.ext.next (zA3 _) S.sep
 have hue:∃ e',P.underlying ty=some (.slice e')∧zq P e'=some z:=by
  unfold QT at hu;split at hu
  ·exact ⟨_,by assumption,hu⟩
  ·cases hu
 obtain ⟨e',hu1,hu2⟩:=hue;have hhi':zF L.tree hi=some vh:=qA hhi;have go:∀ v',zo P ty v none (some vh) none h=some v'→(∀ fq,(Rs.sl v e z enc l).ok h fq→(Rs.sl v' e z enc (l.take b)).ok h fq)→KO P X sz ops (o :: os) L h R:=fun v' q1 q2=>by
  refine qV (v:=v') (h':=h) hg ?_ (by simp only [qB,hdst,hds]) (w v' (S.same (i.ut _) q2));rw [ho];simp only [zC,qA hx,zO,hhi',q1,qH,zK]
 have h0b:qP none 0=some 0:=rfl;rcases k1 with ⟨rfl,rfl⟩|⟨bb,o',cc,slk,cap,g1,g2,g3,g4,g5,g6⟩
 ·obtain rfl:b=0:=by simpa using hb
  refine go (.slice none 0 0) ?_ fun fq q=>.inl ⟨rfl,by simp⟩;have:qP (some vh) 0=some 0:=hbo;simp only [zo,hu1,hu2,this,h0b]
 ·subst g1;have t1:Nat.ble 0 b=true:=by simp
  have t2:Nat.ble b cap=true:=zB3 (zD0 hb g5.1);have hlen:(l.take b).length=b:=by simp;omega
  have sub:=jZ (i:=0) (m:=b*z) g4 (by rw [zG0];exact zD3 z hb);rw [List.drop_zero,← Qp hz,Nat.add_zero] at sub;have key:∀ fq,(Rs.sl (.slice (some ⟨bb,o',none⟩) l.length cap) e z enc l).ok h fq→(Rs.sl (.slice (some ⟨bb,o',none⟩) (b - 0) (cap - 0)) e z enc (l.take b)).ok h fq:=fun fq q=>by
   rcases q with ⟨q1,-⟩|⟨b2,o2,cc2,sl2,cap2,q1,q2,q3,q4,q5,q6⟩
   ·cases q1
   ·cases q1
    exact .inr ⟨bb,o',cc,slk,cap,by rw [hlen,Nat.sub_zero,Nat.sub_zero],g2,q3,by rw [hlen];exact sub,⟨by rw [hlen];exact zD0 hb g5.1,g5.2⟩,g6⟩
  cases hk:(slk.isNone && Nat.beq 0 cap) with
  | false =>
   refine go (.slice (some ⟨bb,o',none⟩) (b - 0) (cap - 0)) ?_ key;simp only [zo,hu1,hu2,g2,h0b,hbo,t1,t2,hk,zF8,Nat.zero_mul,Nat.add_zero]
  | true =>
   refine go (.slice (some ⟨bb,o',none⟩) (b - 0) (cap - 0)) ?_ key;simp only [zo,hu1,hu2,g2,h0b,hbo,t1,t2,hk,zF8]
theorem bsn {ty:TypeId} {n:Nat} {ps:Array (Nat×Operand)} {vs:List (Nat×Value)} {c:List Value} {e:TypeId} {α:Type} {z:Nat} {d:Tmp} (enc:α→List Value) (l:List α) (S:Hs h0 h rs) (w:∀ u h',Hs h0 h' (.sl u e z enc l :: rs)→KO P X sz ops os (L.put d u) h' R) (ho:o.op = .buildSlice ty n ps:=by exact rfl) (hg:qm ops L.tree o.guard=some true:=by exact rfl)
 (hx:JF L ps.toList=some vs:=by exact rfl) (hv:zW P ty n vs h=some (.slice (some ⟨h.next,0,none⟩) n n,h.add (.cells c e none false)):=by exact rfl) (hl:l.length=n:=by exact rfl) (hc:c=l.flatMap enc:=by exact rfl) (hz:c.length=l.length*z:=by exact rfl) (hdst:o.dst=some d:=by exact rfl) (hds:Nat.blt d sz=true:=by exact rfl):KO P X sz ops (o :: os) L h R:=by
 subst hl;exact Y0 ho hg hx hv (by simp only [qB,hdst,hds]) (w _ _ ((S.add c e).asSl (z:=z) enc l hc hz))
end
class SubR (rs rs':List Rs):Prop where
 sub:∀ {h0 h:AH},Hs h0 h rs→Hs h0 h rs'
instance (priority:=2000) SubR.here {rs:List Rs}:SubR rs rs:=⟨id⟩
instance SubR.there {r:Rs} {rs rs':List Rs} [i:SubR rs rs']:SubR (r :: rs) rs':=⟨fun S=>i.sub S.tail⟩
theorem Hs.sub {h0 h:AH} {rs rs':List Rs} [i:SubR rs rs'] (S:Hs h0 h rs):Hs h0 h rs':=i.sub S
class DtI (rs:List Rs) (r:Rs) (rs':outParam (List Rs)):Prop where
 dt:Dt rs r rs'
instance (priority:=2000) DtI.here {r:Rs} {rs:List Rs}:DtI (r :: rs) r rs:=⟨.here⟩
instance DtI.there {r s:Rs} {rs rs':List Rs} [i:DtI rs r rs']:DtI (s :: rs) r (s :: rs'):=⟨.there i.dt⟩
class SelR (rs l:List Rs):Prop where
 sel:∀ {lo:Nat} {h:AH} {U:Fp},Sep lo h rs U→Sep lo h l U
instance (priority:=2000) SelR.here {rs:List Rs}:SelR rs rs:=⟨id⟩
instance SelR.nil {rs:List Rs}:SelR rs []:=⟨fun _=>trivial⟩
instance SelR.cons {rs rs' l:List Rs} {r:Rs} [i:DtI rs r rs'] [j:SelR rs' l]:SelR rs (r :: l):=⟨fun k=>by
 obtain ⟨fp,k1,k2,k3⟩:=i.dt.sep k;exact ⟨fp,k1,k2,j.sel k3⟩⟩
instance (priority:=500) SelR.there {rs l:List Rs} {r:Rs} [j:SelR rs l]:SelR (r :: rs) l:=⟨fun ⟨_,_,_,k⟩=>j.sel (k.mono fun _ q=>q.1)⟩
theorem Hs.pick {h0 h:AH} {rs l:List Rs} [i:SelR rs l] (S:Hs h0 h rs):Hs h0 h l:=⟨S.ext,i.sel S.sep⟩
abbrev RdS {α:Type} (h0:AH) (rs:List Rs) (v:Value) (z:Nat) (enc:α→List Value) (l:List α):Prop:=∀ h,Hs h0 h rs→qY h v z enc l
theorem RdS.base {α:Type} {h0:AH} {rs:List Rs} {v:Value} {z:Nat} {enc:α→List Value} {l:List α} (w:WfH h0) (r:qY h0 v z enc l):RdS h0 rs v z enc l:=fun h S=>r.ext w S.ext
structure Ti where
 a:List UInt8
 b:List UInt8
 k:Int
instance:Inhabited Ti:=⟨⟨[],[],0⟩⟩
def Qa (t:Ti):List Value:=[str t.a,str t.b,.int .u8 t.k]
def tiV (t:Ti):Value:=.agg #[str t.a,str t.b,.int .u8 t.k]
def gat:List Gu→List UInt8→Option Nat
 | [],_=>none
 | g :: r,n=>if g.name=n then some 0 else (gat r n).map (· + 1)
structure Rl where
 us:List Gu
 ts:List Ti
instance:Inhabited Rl:=⟨⟨[],[]⟩⟩
open Classical in
noncomputable def XM (r:Rl) (g:Gu):Rl×Int :=
 if Qs g≠0 then (r,Qs g) else if gat r.us g.name≠none then (r,5) else if 64≤r.us.length then (r,7) else (⟨r.us ++ [g],r.ts⟩,0)
theorem GU {r:Rl} {g:Gu} (h:Qs g≠0):XM r g=(r,Qs g):=by unfold XM;rw [if_pos h]
theorem GX {r:Rl} {g:Gu} (h:Qs g=0) (h2:gat r.us g.name≠none):XM r g=(r,5):=by unfold XM;rw [if_neg (by simpa using h),if_pos h2]
theorem GV {r:Rl} {g:Gu} (h:Qs g=0) (h2:gat r.us g.name=none) (h3:64≤r.us.length):XM r g=(r,7):=by unfold XM;rw [if_neg (by simpa using h),if_neg (by simpa using h2),if_pos h3]
theorem vX {r:Rl} {g:Gu} (h:Qs g=0) (h2:gat r.us g.name=none) (h3:¬ 64≤r.us.length):XM r g=(⟨r.us ++ [g],r.ts⟩,0):=by unfold XM;rw [if_neg (by simpa using h),if_neg (by simpa using h2),if_neg h3]
def AtOk (m:List (List UInt8×Int)) (us:List Gu):Prop:=∀ n,YJ m n=(gat us n).map Int.ofNat
theorem qcN {us:List Gu} {g:Gu} (n:List UInt8):gat (us ++ [g]) n=match gat us n with|some i=>some i|none=>if g.name=n then some us.length else none:=by
 induction us with
 | nil=>simp [gat]
 | cons x r ih =>
  simp only [zC6,gat];by_cases h:x.name=n
  ·simp [h]
  ·simp only [if_neg h,ih];cases gat r n<;>simp<;>split<;>simp
theorem AtOk.app {m:List (List UInt8×Int)} {us:List Gu} {g:Gu} (a:AtOk m us) (hn:gat us g.name=none):AtOk (vz m g.name us.length) (us ++ [g]):=fun n=>by
 rw [qby,qcN];by_cases h:n=g.name
 ·subst h;simp [hn]
 ·rw [if_neg h,a n];cases gat us n with
  | none=>simp;exact fun q=>h q.symm
  | some i=>simp
def TgsOk (gs:List Zf) (h:AH) (fp:Fp):Prop:=∀ g∈gs,(Rs.rd g.tv.val 1 eS g.tg).ok h fp
abbrev KP (gs:List Zf):Rs:=.any (TgsOk gs)
structure BkS where
 vg:SlV
 vt:SlV
 m:Nat
 mp:List (List UInt8×Int)
 gs:List Zf
abbrev bkL (b:Nat) (ts:List Ti) (s:BkS):List Rs:=[.blk b [s.vg.val,s.vt.val,.map (some s.m)] 298,.sl s.vg.val 125 9 eG s.gs,.sl s.vt.val 174 3 Qa ts,.mp s.m (.int .i64) s.mp,KP s.gs]
abbrev Jn (b:Nat) (r:Rl):Rs:=qbo (fun s:BkS=>s.gs.map (·.toGu)=r.us∧AtOk s.mp r.us) (bkL b r.ts)
theorem Hs.bk {h0 h:AH} {rs0 rs:List Rs} {b:Nat} {r:Rl} (S:Hs h0 h rs0) (vg vt:SlV) (m:Nat) (mp:List (List UInt8×Int)) (gs:List Zf) (q1:gs.map (·.toGu)=r.us) (q2:AtOk mp r.us)
 [i:SelR rs0 (.blk b [vg.val,vt.val,.map (some m)] 298 :: .sl vg.val 125 9 eG gs :: .sl vt.val 174 3 Qa r.ts :: .mp m (.int .i64) mp :: KP gs :: rs)]:Hs h0 h (Jn b r :: rs) :=
 Hs.pack (s:=⟨vg,vt,m,mp,gs⟩) ⟨q1,q2⟩ (show Hs h0 h (.blk b [vg.val,vt.val,.map (some m)] 298 :: .sl vg.val 125 9 eG gs :: .sl vt.val 174 3 Qa r.ts :: .mp m (.int .i64) mp :: KP gs :: rs) from S.pick)
theorem TgsOk.rd {h:AH} {fp:Fp} {gs:List Zf} (k:TgsOk gs h fp) {i:Nat} (hi:i<gs.length):qY h (gs.getD i default).tv.val 1 eS (gs.getD i default).tg:=by
 have q:=k _ (List.getElem_mem hi);rw [show gs.getD i default=gs[i] by rw [zA2,zA4 hi];rfl];rcases q with ⟨q1,q2⟩|⟨b,o,cap,cc,e,s,r,q1,q2,q3,q4⟩
 ·exact .inl ⟨q1,by rw [q2];rfl,by rw [q2];rfl⟩
 ·exact .inr ⟨b,o,cap,cc,e,s,r,q1,q2,q4⟩
theorem pV {α:Type} {v:Value} {z:Nat} {enc:α→List Value} {l:List α} {h:AH} {fp fp':Fp} (k:(Rs.rd v z enc l).ok h fp) (hf:∀ b,fp b→fp' b):(Rs.rd v z enc l).ok h fp':=by
 rcases k with k|⟨b,o,cap,cc,e,s,r,q1,q2,q3,q4⟩
 ·exact .inl k
 ·exact .inr ⟨b,o,cap,cc,e,s,r,q1,q2,hf b q3,q4⟩
theorem qe4 {α:Type} {v:Value} {e:TypeId} {z:Nat} {enc:α→List Value} {l:List α} {h:AH} {fp:Fp} (k:(Rs.sl v e z enc l).ok h fp):(Rs.rd v z enc l).ok h fp:=by
 rcases k with k|⟨b,o,cc,slk,cap,h1,h2,h3,h4,-⟩
 ·exact .inl k
 ·exact .inr ⟨b,o,_,cc,e,slk,false,h1,h2,h3,h4⟩
theorem Hs.tgApp {h0 h:AH} {rs:List Rs} {gs:List Zf} {g:Zf} {e:TypeId} (S:Hs h0 h (.sl g.tv.val e 1 eS g.tg :: KP gs :: rs)):Hs h0 h (KP (gs ++ [g]) :: rs):=by
 obtain ⟨f1,k1,k2,f2,k3,k4,k5⟩:=S.sep;refine ⟨S.ext,fun b=>f1 b∨f2 b,fun h' q g' hg=>?_,fun b hb=>?_,k5.mono fun b hb=>⟨trivial,fun q=>?_⟩⟩
 ·rcases zB8.1 hg with hg|hg
  ·exact pV (k3 h' (fun b hb=>q b (.inr hb)) g' hg) fun b hb=>.inr hb
  ·obtain rfl:=zB5.1 hg;exact pV (qe4 (k1.local fun b hb=>q b (.inl hb))) fun b hb=>.inl hb
 ·rcases hb with hb|hb
  ·exact k2 b hb
  ·exact ⟨(k4 b hb).1,(k4 b hb).2.1,trivial⟩
 ·rcases q with q|q
  ·exact hb.1.2 q
  ·exact hb.2 q
theorem qdb {g:Gu} (h:Qs g=0):JR g∧(0≤g.since∧g.since≤9999)∧(0≤g.side∧g.side≤2)∧g.tg.length≤4∧qdp g.tg:=by
 unfold Qs at h;split at h
 ·cases h
 ·split at h
  ·cases h
  ·split at h
   ·cases h
   ·split at h
    ·cases h
    ·rename_i a b c d
     exact ⟨zF2.1 a,zF2.1 b,zF2.1 c,(zF2.1 d).1,(zF2.1 d).2⟩
variable [Flag]
theorem Kq {h0:AH} (w:WfH h0) {b m:Nat} {vg vt:Value} (hb:h0.get b=some (.cells [vg,vt,.map (some m)] 298 none false)):Fn Tryz.prog Xh 295 [.pointer (some ⟨b,0,none⟩)] h0 (fun v h'=>v = .bool false∧Hs h0 h' []):=by
 have S:=Hs.start w;refine qF (by first|rfl) Tryz.func295 rfl rfl ?_;all_goals (repeat' (first|refine qg ?_|(refine qc 0 ?_;refine mv ?_;refine qf ?_)|(refine qc 1 ?_;refine mv ?_;refine vl ?_;refine mv ?_;refine mv ?_;refine vl ?_;(first|(refine vl ?_));(first|(refine lH S ?_));refine vl ?_;refine vl ?_;refine mv ?_;refine qf ?_)))
 refine qi ⟨_,rfl,?_⟩;exact ⟨rfl,S⟩
theorem qax {h0:AH} (w:WfH h0) (v:Value) (a:List (List UInt8)) (r:qY h0 v 1 eS a) (hl:a.length≤1000000):Fn Tryz.prog Xh 318 [v] h0 (fun u h'=>Hs h0 h' [.sl u 9 1 eS a]):=by
 have S:=Hs.start w;have r0:=r;rcases r with ⟨rfl,h1,-⟩|⟨b,o,cap,cc,e,s,q,rfl,h1,h2⟩
 ·obtain rfl:a=[]:=zE8.1 h1;refine qF (by first|rfl) Tryz.func318 rfl rfl ?_;all_goals (repeat' (first|refine qg ?_|refine qh rfl ?_|(refine qc 0 ?_;refine mv ?_;refine qf ?_)|(refine qc 1 ?_;refine mv ?_;refine vl ?_;refine qf ?_)|(refine qc 2 ?_;refine mv ?_;refine qf ?_)))
  refine qi ⟨_,rfl,?_⟩;exact S.nilS
 ·refine qF (by first|rfl) Tryz.func318 rfl rfl ?_;all_goals (repeat' (first|refine qg ?_|refine qh rfl ?_|refine qj ?_|(refine qc 0 ?_;refine mv ?_;refine qf ?_)|(refine qc 1 ?_;refine mv ?_;refine vl ?_;refine qf ?_)|(refine qc 3 ?_;skip)))
  refine nw 1 eS S ?_;clear S;intro u h S;(refine mv ?_);refine apd S rfl rfl (r0.ext w S.ext) ?_;clear S;intro v' h S;(refine mv ?_;refine qf ?_);all_goals (repeat' (fail))
  refine qi ⟨_,rfl,?_⟩;exact S
theorem qav {h0:AH} (w:WfH h0) (g:Zf) (r:qY h0 g.tv.val 1 eS g.tg) (hl:g.tg.length≤1000000):Fn Tryz.prog Xh 297 [gV g] h0 (fun v h'=>∃ tv:SlV,v=gV { g with tv:=tv }∧Hs h0 h' [.sl tv.val 9 1 eS g.tg]):=by
 have S:=Hs.start w;unfold gV;refine qF (by first|rfl) Tryz.func297 rfl rfl ?_;all_goals (repeat' (first|refine qg ?_|(refine qc 0 ?_;(refine bx S ?_;clear S;intro b h S);(refine al S ?_;clear S;intro b h S);refine qf ?_)|(refine qc 1 ?_;refine vl ?_;refine lB S rfl rfl ?_)))
 (refine qo rfl rfl rfl rfl rfl ((qax S.wf g.tv.val g.tg (r.ext w S.ext) hl).mono ?_);rintro v h x)<;>(replace S:=S.join1 x;clear x;obtain ⟨tv,rfl⟩:=S.slRd.sV v;refine vl ?_;(first|(refine sB S rfl rfl ?_;clear S;intro h S));refine qf ?_)
 all_goals (repeat' (first|refine qg ?_|(refine qc 2 ?_;refine lB S rfl rfl ?_;(first|(refine sB S rfl rfl ?_;clear S;intro h S));refine qf ?_)))
 refine qi ⟨_,jE S rfl (by first|exact .there .here) (by exact rfl) (by exact rfl),?_⟩;exact ⟨tv,rfl,S.only .here⟩
theorem qd5 {h0:AH} (w:WfH h0):Fn Tryz.prog Xh 258 [] h0 (fun v h'=>∃ b,v = .pointer (some ⟨b,0,none⟩)∧Hs h0 h' [Jn b ⟨[],[]⟩]):=by
 have S:=Hs.start w;refine qF (by first|rfl) Tryz.func258 rfl rfl ?_;all_goals (repeat' (first|refine qg ?_|(refine qc 0 ?_;refine mv ?_;refine qf ?_)))
 refine qc 1 ?_;refine mkm (α:=Int) (.int .i64) S ?_;clear S;intro m h S;(refine vl ?_;(refine bx S ?_;clear S;intro b h S);refine mv ?_;refine qf ?_);all_goals (repeat' (fail))
 refine qi ⟨_,rfl,?_⟩;refine ⟨_,rfl,?_⟩;have S:=((S.nilS (e:=125) (z:=9) (enc:=eG)).nilS (e:=174) (z:=3) (enc:=Qa)).anyS (p:=TgsOk []) fun h' g hg=>by cases hg
 replace S:Hs h0 _ [KP [],.sl (SlV.val ⟨none,0,0⟩) 174 3 Qa [],.sl (SlV.val ⟨none,0,0⟩) 125 9 eG [],.blk b [SlV.val ⟨none,0,0⟩,SlV.val ⟨none,0,0⟩,.map (some m)] 298,.mp m (.int .i64) []]:=S;exact S.bk (r:=⟨[],[]⟩) ⟨none,0,0⟩ ⟨none,0,0⟩ m [] [] rfl fun n=>rfl
theorem qeA {h0 h:AH} {rs:List Rs} {p:Nat} {r:Rl} (S:Hs h0 h (Jn p r :: rs)) (g:Zf) (hr:RdS h0 rs g.tv.val 1 eS g.tg) (hl:g.tg.length≤9223372036854775807) (hu:r.us.length≤64) :
 Fn Tryz.prog Xh 259 [.pointer (some ⟨p,0,none⟩),gV g] h (fun v h'=>v = .int .i64 (XM r g.toGu).2∧Hs h0 h' (Jn p (XM r g.toGu).1 :: rs)):=by
 obtain ⟨⟨vg,vt,m,mp,gs⟩,⟨q1,q2⟩,S⟩:=S.unpack;have e1:gs.length=r.us.length:=by rw [← q1];simp
 dsimp only [bkL,List.cons_append,List.nil_append] at q1 q2 S;unfold gV;refine qF (by first|rfl) Tryz.func259 rfl rfl ?_;all_goals (repeat' (first|refine qg ?_|(refine qc 0 ?_;(refine bx S ?_;clear S;intro b h S);refine mv ?_;refine qf ?_)|(refine qc 1 ?_;refine mv ?_)))
 (refine qo rfl rfl rfl rfl rfl ((Kq S.wf (J5 S (.there .here))).mono ?_);rintro _ h ⟨rfl,x⟩)<;>(replace S:=S.join0 x;clear x;refine qf ?_)
 all_goals (repeat' (first|refine qg ?_|refine qh rfl ?_|refine qj ?_|(refine qc 3 ?_;refine lB S rfl rfl ?_)))
 (refine qo rfl rfl rfl rfl rfl ((qbY S.wf g ⟨hr _ S.sub,hl⟩).mono ?_);rintro _ h ⟨rfl,x⟩)<;>(replace S:=S.join0 x;clear x;refine mv ?_;refine qf ?_)
 all_goals (repeat' (first|refine qg ?_|refine qh rfl ?_|refine qj ?_|(refine qc 4 ?_;refine mv ?_;(first|(refine cS ?_ ?_<;>intro hc))<;>(refine qf ?_))|(refine qc 5 ?_;refine mv ?_;refine mv ?_;refine qf ?_)|(refine qQ 6 ?_;refine mv ?_;refine vl ?_;refine vl ?_;refine lB S rfl rfl ?_;refine vl ?_;refine lB S rfl rfl ?_)))
 ·refine qi ⟨_,rfl,?_⟩;rw [GU hc];exact ⟨rfl,S.bk vg vt m mp gs q1 q2⟩
 ·have hc0:Qs g.toGu=0:=by simpa using hc
  replace S:Hs h0 h (.blk b (eG g) 125 :: .blk p [vg.val,vt.val,.map (some m)] 298 :: .sl vg.val 125 9 eG gs :: .sl vt.val 174 3 Qa r.ts :: .mp m (.int .i64) mp :: KP gs :: rs):=S;refine lk S (.there (.there (.there (.there .here)))) (fun i hi=>?_) (fun hi=>?_)
  ·simp only [okV];(refine mv ?_;refine vl ?_;refine vl ?_;refine mv ?_;refine mv ?_;refine qf ?_);all_goals (repeat' (first|refine qg ?_|refine qh rfl ?_|(refine qc 7 ?_;refine mv ?_;refine qf ?_)|(refine qc 8 ?_;refine mv ?_;refine qf ?_)))
   refine qi ⟨_,rfl,?_⟩;rw [GX hc0 (by rw [q2] at hi;intro q;rw [q] at hi;cases hi)];exact ⟨rfl,S.bk vg vt m mp gs q1 q2⟩
  ·simp only [okV];(refine mv ?_;refine vl ?_;refine vl ?_;refine mv ?_;refine mv ?_;refine qf ?_);all_goals (repeat' (first|refine qg ?_|refine qh rfl ?_|refine qj ?_|(refine qc 7 ?_;refine mv ?_;refine qf ?_)|(refine qc 9 ?_;refine mv ?_;refine vl ?_;refine vl ?_;refine vl ?_;refine lB S rfl rfl ?_;refine wM S rfl rfl ?_;(first|(refine cS ?_ ?_<;>intro hc))<;>(refine qf ?_))|(refine qc 10 ?_;refine mv ?_;refine qf ?_)|(refine qQ 11 ?_;refine mv ?_;refine vl ?_;refine vl ?_;refine lB S rfl rfl ?_;refine vl ?_;refine lB S rfl rfl ?_;refine mv ?_;refine vl ?_;refine vl ?_;refine vl ?_;refine lB S rfl rfl ?_;refine wM S rfl rfl ?_)))
   ·refine qi ⟨_,rfl,?_⟩;rw [GV hc0 (by rw [q2] at hi;cases hq:gat r.us g.name with|none=>rfl|some i=>rw [hq] at hi;cases hi) (by omega)];exact ⟨rfl,S.bk vg vt m mp gs q1 q2⟩
   ·have hn:gat r.us g.name=none:=by rw [q2] at hi;cases hq:gat r.us g.name with|none=>rfl|some i=>rw [hq] at hi;cases hi
    have hn64:¬ 64≤r.us.length:=by omega
    refine up (x:=(gs.length:Int)) (key:=g.name) S (.there (.there (.there (.there .here)))) (.there (.there (.there (.there .here)))) (fun h S=>?_) (.inl rfl);(refine qf ?_);have ht4:=(qdb hc0).2.2.2.1;(repeat (refine qg ?_));refine Zy (id:=12) [(5,(0,2))] [some (p)] ?_;refine qp ?_;(first|(refine mv ?_<;>refine qf ⟨⟨by (first|exact True.intro),rfl⟩,?_⟩));refine qp ?_;(first|(refine mv ?_<;>refine qf ⟨⟨by (first|exact True.intro),rfl⟩,?_⟩));refine qp ?_;(first|(refine vl ?_<;>refine qf ⟨⟨by (first|exact True.intro),rfl⟩,?_⟩));refine qp ?_;(first|(refine vl ?_<;>refine qf ⟨⟨by (first|exact True.intro),rfl⟩,?_⟩));refine qp ?_;(first|(refine vl ?_<;>refine qf ⟨⟨by (first|exact True.intro),rfl⟩,?_⟩));refine qp ?_;(first|(refine lB S rfl rfl ?_<;>refine qf ⟨⟨by (first|exact Or.inr rfl),rfl⟩,?_⟩));refine qp ?_;(first|(refine lB S rfl rfl ?_<;>refine qf ⟨⟨by (first|exact True.intro),rfl⟩,?_⟩));((refine qp ?_;first|refine qo rfl rfl rfl rfl rfl ((qav S.wf g (hr _ S.sub) (by omega)).mono ?_));rintro _ h ⟨tv,rfl,x⟩)<;>((refine qf ⟨⟨True.intro,?_⟩,?_⟩;(focus ((show keepsX _ _ _ _ _;simp only [keepsX];(repeat' (first|exact True.intro|refine And.intro ?_ ?_));all_goals (intro hw;first|exact x.ext.old _ S.bB)))));replace S:=S.join1 x;clear x;refine qp ?_;(first|((refine one 9 S ?_;have S0:=S;clear S;intro u h S);refine qf ⟨⟨True.intro,?_⟩,?_⟩;(focus ((show keepsX _ _ _ _ _;simp only [keepsX];(repeat' (first|exact True.intro|refine And.intro ?_ ?_));all_goals (intro hw;first|exact (S.gB).trans (S0.gB).symm))));clear S0)))
    refine qp ?_;refine app (y0:={ g with tv:=tv }) S rfl rfl ?_;have S0:=S;clear S;intro v h S;obtain ⟨vg',rfl⟩:=S.sV v;refine qf ⟨⟨True.intro,?_⟩,?_⟩;(focus ((show keepsX _ _ _ _ _;simp only [keepsX];(repeat' (first|exact True.intro|refine And.intro ?_ ?_));all_goals (intro hw;first|exact absurd hw (by decide +kernel)))));clear S0;(refine qp ?_;(first|(refine vl ?_<;>refine qf ⟨⟨by (first|exact True.intro),rfl⟩,?_⟩));refine qp ?_;(first|(refine vl ?_<;>refine qf ⟨⟨by (first|exact True.intro),rfl⟩,?_⟩));refine qp ?_;(first|(refine vl ?_<;>refine qf ⟨⟨by (first|exact True.intro),rfl⟩,?_⟩));refine qp ?_;(first|((refine sB S rfl rfl ?_;have S0:=S;clear S;intro h S);refine qf ⟨⟨True.intro,?_⟩,?_⟩;(focus ((show keepsX _ _ _ _ _;simp only [keepsX];(repeat' (first|exact True.intro|refine And.intro ?_ ?_));all_goals (intro hw;first|exact absurd hw (by decide +kernel)))));clear S0));refine Ji ?_);all_goals (repeat' (first|refine qg ?_|(refine qc 13 ?_;refine mv ?_;refine qf ?_)))
    refine qi ⟨_,rfl,?_⟩;rw [vX hc0 hn hn64];replace S:Hs h0 h (.sl vg'.val 125 9 eG (gs ++ [{ g with tv:=tv }]) :: .sl tv.val 9 1 eS g.tg :: .blk b (eG g) 125 :: .blk p [vg'.val,vt.val,.map (some m)] 298 :: .sl vt.val 174 3 Qa r.ts :: .mp m (.int .i64) (vz mp g.name gs.length) :: KP gs :: rs):=S;have S:=(show Hs h0 h (.sl tv.val 9 1 eS g.tg :: KP gs :: .sl vg'.val 125 9 eG (gs ++ [{ g with tv:=tv }]) :: .blk p [vg'.val,vt.val,.map (some m)] 298 :: .sl vt.val 174 3 Qa r.ts :: .mp m (.int .i64) (vz mp g.name gs.length) :: rs) from S.pick)
    have S:=Hs.tgApp (g:={ g with tv:=tv }) S;refine ⟨rfl,S.bk vg' vt m (vz mp g.name gs.length) (gs ++ [{ g with tv:=tv }]) (by simp [q1]) ?_⟩;rw [e1];exact q2.app hn
end Go.Proofs.Xx
namespace Go.Proofs.Xx
open Go Go.Proofs
theorem qgs (a b:List UInt8):(Lib.compareBytes a b<0↔jT a b)∧(Lib.compareBytes a b=0↔a=b):=by
 induction a generalizing b with
 | nil =>
  cases b with
  | nil=>exact ⟨⟨fun h=>by simp [Lib.compareBytes] at h,fun h=>absurd h (X9 _)⟩,by simp [Lib.compareBytes]⟩
  | cons y b=>exact ⟨⟨fun _=>VI _ _,fun _=>by simp [Lib.compareBytes]⟩,by simp [Lib.compareBytes]⟩
 | cons x a ih =>
  cases b with
  | nil=>exact ⟨⟨fun h=>by simp [Lib.compareBytes] at h,fun h=>absurd h (X9 _)⟩,by simp [Lib.compareBytes]⟩
  | cons y b =>
   obtain ⟨i1,i2⟩:=ih b;have hc:Lib.compareBytes (x :: a) (y :: b)=if x<y then -1 else if y<x then 1 else Lib.compareBytes a b:=rfl
   rw [Q7,hc];by_cases h1:x<y
   ·rw [if_pos h1];refine ⟨⟨fun _=>.inl h1,fun _=>by omega⟩,fun q=>by omega,fun q=>?_⟩;injection q with q _;subst q;exact absurd h1 (UInt8.lt_irrefl _)
   ·rw [if_neg h1];by_cases h2:y<x
    ·rw [if_pos h2];refine ⟨⟨fun q=>by omega,fun q=>?_⟩,fun q=>by omega,fun q=>?_⟩
     ·rcases q with q|⟨rfl,-⟩
      ·exact absurd q h1
      ·exact absurd h2 (UInt8.lt_irrefl _)
     ·injection q with q _;subst q;exact absurd h2 (UInt8.lt_irrefl _)
    ·rw [if_neg h2];have e:x=y:=UInt8.le_antisymm (UInt8.not_lt.1 h2) (UInt8.not_lt.1 h1);subst e;refine ⟨⟨fun q=>.inr ⟨rfl,i1.1 q⟩,fun q=>?_⟩,⟨fun q=>by rw [i2.1 q],fun q=>i2.2 (by injection q)⟩⟩;rcases q with q|q
     ·exact absurd q h1
     ·exact i1.2 q.2
def Ze (x y:Ti):Prop:=jT x.a y.a∨(x.a=y.a∧jT x.b y.b)
theorem Pz (x:Ti):¬ Ze x x:=fun h=>by rcases h with h|h;exact zS _ h;exact zS _ h.2
theorem Q5 {x y z:Ti} (h1:Ze x y) (h2:Ze y z):Ze x z:=by
 rcases h1 with h1|⟨e1,h1⟩
 ·rcases h2 with h2|⟨e2,h2⟩
  ·exact .inl (Q4 h1 h2)
  ·exact .inl (e2 ▸ h1)
 ·rcases h2 with h2|⟨e2,h2⟩
  ·exact .inl (e1 ▸ h2)
  ·exact .inr ⟨e1.trans e2,Q4 h1 h2⟩
theorem vW (x y:Ti):Ze x y∨(x.a=y.a∧x.b=y.b)∨Ze y x:=by
 rcases X8 x.a y.a with h|h|h
 ·exact .inl (.inl h)
 ·rcases X8 x.b y.b with g|g|g
  ·exact .inl (.inr ⟨h,g⟩)
  ·exact .inr (.inl ⟨h,g⟩)
  ·exact .inr (.inr (.inr ⟨h.symm,g⟩))
 ·exact .inr (.inr (.inl h))
def TS (ts:List Ti):Prop:=ts.Pairwise Ze
theorem TS.lt {ts:List Ti} (h:TS ts) {i j:Nat} (hij:i<j) (hj:j<ts.length):Ze (ts.getD i default) (ts.getD j default):=by
 have:=zD2.1 h i j (by omega) hj hij;rw [zA2,zA2,zA4 hj,zA4 (show i<ts.length by omega)];exact this
def Plc (l:List Ti) (y:Ti) (i:Nat):Prop:=i≤l.length∧(∀ j,j<i→Ze (l.getD j default) y)∧∀ j,i≤j→j<l.length→¬ Ze (l.getD j default) y
variable [Flag]
theorem qc9 {h:AH} (a b:List UInt8):Fn Tryz.prog Xh 319 [str a,str b] h (fun v h'=>(∃ c,v = .int .i64 c∧(c<0↔jT a b)∧(c=0↔a=b))∧h'=h):=by
 refine qF (by first|rfl) Tryz.func319 rfl rfl ?_;all_goals (repeat' (first|refine qg ?_|(refine qc 0 ?_;refine mv ?_;refine qf ?_)|(refine qc 1 ?_;refine mv ?_;refine mv ?_)))
 (refine qo rfl rfl rfl rfl rfl (((Zd (R:=fun v h'=>v = .int .i64 (Lib.compareBytes a b)∧h'=h) rfl ⟨rfl,rfl⟩)).mono ?_);rintro _ _ ⟨rfl,rfl⟩)<;>(refine mv ?_;refine qf ?_)
 all_goals (repeat' (fail))
 refine qi ⟨_,rfl,?_⟩;exact ⟨⟨_,rfl,qgs a b⟩,rfl⟩
theorem qbT {h:AH} (a b:List UInt8):Fn Tryz.prog Xh 298 [str a,str b] h (fun v h'=>(∃ c,v = .int .i64 c∧(c<0↔jT a b)∧(c=0↔a=b))∧h'=h):=by
 refine qF (by first|rfl) Tryz.func298 rfl rfl ?_;all_goals (repeat' (first|refine qg ?_|(refine qc 0 ?_;refine mv ?_;refine qf ?_)|(refine qc 1 ?_;refine mv ?_;refine mv ?_)))
 (refine qo rfl rfl rfl rfl rfl ((qc9 a b).mono ?_);rintro _ _ ⟨⟨c,rfl,q⟩,rfl⟩)<;>(refine mv ?_;refine qf ?_)
 all_goals (repeat' (fail))
 refine qi ⟨_,rfl,?_⟩;exact ⟨⟨c,rfl,q⟩,rfl⟩
theorem We {h0:AH} (w:WfH h0) (x y:Ti):Fn Tryz.prog Xh 260 [tiV x,tiV y] h0 (fun v h'=>(∃ c,v = .int .i64 c∧(c<0↔Ze x y)∧(c=0↔x.a=y.a∧x.b=y.b))∧Hs h0 h' []):=by
 have S:=Hs.start w;unfold tiV;refine qF (by first|rfl) Tryz.func260 rfl rfl ?_;all_goals (repeat' (first|refine qg ?_|(refine qc 0 ?_;(refine bx S ?_;clear S;intro b h S);(refine bx S ?_;clear S;intro b h S);refine mv ?_;refine qf ?_)|(refine qc 1 ?_;refine vl ?_;refine lB S rfl rfl ?_;refine vl ?_;refine lB S rfl rfl ?_)))
 (refine qo rfl rfl rfl rfl rfl ((qbT x.a y.a).mono ?_);rintro _ _ ⟨⟨c,rfl,q1,q2⟩,rfl⟩)<;>(refine mv ?_;refine qf ?_)
 all_goals (repeat' (first|refine qg ?_|refine qh rfl ?_|refine qj ?_|(refine qc 2 ?_;refine mv ?_;(first|(refine cS ?_ ?_<;>intro hc))<;>(refine qf ?_))|(refine qc 3 ?_;refine mv ?_;refine mv ?_;refine qf ?_)|(refine qc 4 ?_;refine vl ?_;refine lB S rfl rfl ?_;refine vl ?_;refine lB S rfl rfl ?_)))
 ·refine qi ⟨_,rfl,?_⟩;refine ⟨⟨c,rfl,?_,?_⟩,S.drop⟩
  ·unfold Ze;rw [q1];exact ⟨.inl,fun h=>h.elim id fun h=>absurd (q2.2 h.1) hc⟩
  ·exact ⟨fun h=>absurd h hc,fun h=>q2.2 h.1⟩
 ·(refine qo rfl rfl rfl rfl rfl ((qbT x.b y.b).mono ?_);rintro _ _ ⟨⟨d,rfl,q3,q4⟩,rfl⟩)<;>(refine mv ?_;refine qf ?_)
  all_goals (repeat' (fail))
  refine qi ⟨_,rfl,?_⟩;have e:=q2.1 (by omega);refine ⟨⟨d,rfl,?_,?_⟩,S.drop⟩
  ·unfold Ze;rw [q3];exact ⟨fun h=>.inr ⟨e,h⟩,fun h=>h.elim (fun h=>absurd (e ▸ h) (zS _)) (·.2)⟩
  ·rw [q4];exact ⟨fun h=>⟨e,h⟩,(·.2)⟩
theorem Pg {h0:AH} (w:WfH h0) (a b:List UInt8) (k:Int):Fn Tryz.prog Xh 301 [str a,str b,.int .u8 k] h0 (fun v h'=>v=tiV ⟨YA a b,YB a b,k⟩∧Hs h0 h' []):=by
 have S:=Hs.start w;refine qF (by first|rfl) Tryz.func301 rfl rfl ?_;all_goals (repeat' (first|refine qg ?_|(refine qc 0 ?_;(refine al S ?_;clear S;intro b h S);refine qf ?_)|(refine qc 1 ?_;refine mv ?_;refine mv ?_;refine mnS ?_;refine mv ?_;refine mv ?_;refine mxS ?_;refine mv ?_;refine vl ?_;(first|(refine sB S rfl rfl ?_;clear S;intro h S));refine qf ?_)))
 refine qi ⟨_,jE S rfl (by first|exact .here) (by exact rfl) (by exact rfl),?_⟩;exact ⟨rfl,S.drop⟩
theorem GM {h0:AH} (w:WfH h0) {v:Value} {l:List Ti} (hr:qY h0 v 3 Qa l) (hl:l.length≤1000000) (hs:TS l) (y:Ti) :
 Fn Tryz.prog Xh 320 [v,tiV y,.func (.func 260) #[] #[]] h0 (fun u h'=>(∃ (i:Nat) (f:Bool),u = .tuple #[.int .i64 i,.bool f]∧Plc l y i∧(f=true↔i<l.length∧(l.getD i default).a=y.a∧(l.getD i default).b=y.b))∧Hs h0 h' []):=by
 have S:=Hs.start w;unfold tiV;refine qF (by first|rfl) Tryz.func320 rfl rfl ?_;all_goals (repeat' (first|refine qg ?_|refine ql ?_|(refine qc 0 ?_;(refine bx S ?_;clear S;intro b h S);refine mv ?_;refine mv ?_;refine qf ?_)|(refine qc 1 ?_;refine mv ?_;refine zT S ?_;refine mv ?_;refine qf ?_)|(refine qc 2 ?_;(iterate 3 refine mv ?_);refine qf ?_)))
 replace S:Hs h0 h [.blk b (Qa y) 174]:=S;refine qG (σ:=Nat×Nat) (fun (lo,hi) h'=>Hs h0 h' [.blk b (Qa y) 174]∧lo≤hi∧hi≤l.length∧(∀ j,j<lo→Ze (l.getD j default) y)∧(∀ j,hi≤j→j<l.length→¬ Ze (l.getD j default) y)) (fun (lo,hi)=>hi - lo) (fun (lo,hi)=>[(0,v),(2,.func (.func 260) #[] #[]),(4,.pointer (some ⟨b,0,none⟩)),(8,.int .i64 l.length),(9,.int .i64 lo),(10,.int .i64 hi)]) (0,l.length) qw ?_ ?_
 ·exact ⟨S,zB0 _,zA3 _,fun j hj=>absurd hj (zB7 _),fun j h1 h2=>absurd h2 (by omega)⟩
 clear S;rintro ⟨lo,hi⟩ h ⟨S,g1,g2,g3,g4⟩;all_goals (repeat' (first|refine qg ?_|refine qh rfl ?_|refine qj ?_|refine qx ?_|refine ql ?_|(refine qc 3 ?_;refine mv ?_;refine mv ?_;(first|(refine cS ?_ ?_<;>intro hc))<;>(refine qf ?_))|(refine qc 4 ?_;refine mv ?_;refine mv ?_;refine ad ?_;refine cW ?_;refine sR1 ?_;refine cI ?_;refine mv ?_;refine qf ?_)|(refine qQ 5 ?_;(iterate 3 refine mv ?_);refine jB S ?_;refine jA S ?_;refine lB S rfl rfl ?_)|(refine qQ 8 ?_;(iterate 3 refine mv ?_);(first|(refine cS ?_ ?_<;>intro hc))<;>(refine mv ?_;(first|refine off ?_|refine mv ?_);(first|refine off ?_|refine mv ?_);(first|refine off ?_|refine mv ?_);(first|refine off ?_|(refine jB S ?_));(first|refine off ?_|(refine jA S ?_));(first|refine off ?_|(refine lB S rfl rfl ?_));(first|(refine off ?_;(refine off ?_)<;>(refine vl ?_;refine mv ?_;refine mv ?_;refine qf ?_))|skip)))))
 ·obtain ⟨mid,hm,hm2,hm3⟩:∃ mid:Nat,((lo:Int)+hi) / 2=mid∧lo≤mid∧mid<hi:=⟨(lo+hi) / 2,by omega,by omega,by omega⟩
  simp only [hm,zA0];(refine jX rfl rfl rfl rfl ((We S.wf (l.getD mid default) y).mono ?_);rintro _ h ⟨⟨c,rfl,e1,e2⟩,x⟩)<;>(replace S:=S.join0 x;clear x;(first|(refine cS ?_ ?_<;>intro hc))<;>(refine qf ?_))
  all_goals (repeat' (first|refine qh rfl ?_|(refine qc 6 ?_;refine mv ?_;refine ad ?_;refine mv ?_;refine qf ?_)|(refine qc 7 ?_;refine mv ?_;refine mv ?_;refine qf ?_)))
  ·refine ⟨(mid+1,hi),?_,?_,qw⟩
   ·show hi - (mid+1)<hi - lo;omega
   ·refine ⟨S,by omega,g2,fun j hj=>?_,g4⟩;rcases zA7 j mid with q|q
    ·exact Q5 (hs.lt q (by omega)) (e1.1 hc)
    ·obtain rfl:j=mid:=by omega
     exact e1.1 hc
  ·refine ⟨(lo,mid),?_,?_,qw⟩
   ·show mid - lo<hi - lo;omega
   ·refine ⟨S,hm2,by omega,g3,fun j h1 h2 q=>?_⟩;rcases zA7 mid j with q2|q2
    ·exact hc (e1.2 (Q5 (hs.lt q2 h2) q))
    ·obtain rfl:j=mid:=by omega
     exact hc (e1.2 q)
 ·obtain rfl:hi=lo:=by omega
  simp only [zA0];(refine jX rfl rfl rfl rfl ((We S.wf (l.getD hi default) y).mono ?_);rintro _ h ⟨⟨c,rfl,e1,e2⟩,x⟩)<;>(replace S:=S.join0 x;clear x;(first|(first|(refine cS ?_ ?_<;>intro hc)))<;>(refine vl ?_;refine mv ?_;refine mv ?_;refine qf ?_))
  all_goals (all_goals (repeat' (fail)))
  all_goals (refine qi ⟨_,rfl,?_⟩)
  ·exact ⟨⟨hi,true,rfl,⟨g2,g3,g4⟩,fun _=>⟨by omega,e2.1 hc⟩,fun _=>rfl⟩,S.drop⟩
  ·exact ⟨⟨hi,false,rfl,⟨g2,g3,g4⟩,fun q=>(by cases q),fun q=>absurd (e2.2 q.2) hc⟩,S.drop⟩
 ·obtain rfl:hi=lo:=by omega
  all_goals (repeat' (fail))
  refine qi ⟨_,rfl,?_⟩;exact ⟨⟨hi,false,rfl,⟨g2,g3,g4⟩,fun q=>(by cases q),fun q=>absurd q.1 (by omega)⟩,S.drop⟩
theorem qbm {h0:AH} (w:WfH h0) {p m:Nat} {vg vt:Value} {ts:List Ti} (hb:h0.get p=some (.cells [vg,vt,.map (some m)] 298 none false)) (hr:qY h0 vt 3 Qa ts) (hl:ts.length≤1000000) (hs:TS ts) (a b:List UInt8) :
 Fn Tryz.prog Xh 299 [.pointer (some ⟨p,0,none⟩),str a,str b] h0 (fun u h'=>(∃ (i:Nat) (f:Bool),u = .tuple #[.int .i64 i,.bool f]∧Plc ts ⟨YA a b,YB a b,0⟩ i∧(f=true↔i<ts.length∧(ts.getD i default).a=YA a b∧(ts.getD i default).b=YB a b))∧Hs h0 h' []):=by
 have S:=Hs.start w;refine qF (by first|rfl) Tryz.func299 rfl rfl ?_;all_goals (repeat' (first|refine qg ?_|(refine qc 0 ?_;refine mv ?_;refine mv ?_;refine qf ?_)))
 (repeat (refine qg ?_));refine Zy (id:=1) [(4,(0,1))] [some (p)] ?_;refine qp ?_;(first|(refine mv ?_<;>refine qf ⟨⟨by (first|exact True.intro),rfl⟩,?_⟩));refine qp ?_;(first|(refine vl ?_<;>refine qf ⟨⟨by (first|exact True.intro),rfl⟩,?_⟩));refine qp ?_;(first|(refine vl ?_<;>refine qf ⟨⟨by (first|exact True.intro),rfl⟩,?_⟩));refine qp ?_;(first|(refine vl ?_<;>refine qf ⟨⟨by (first|exact True.intro),rfl⟩,?_⟩));refine qp ?_;(first|(refine lH S ?_<;>refine qf ⟨⟨by (first|exact Or.inr rfl),rfl⟩,?_⟩));refine qp ?_;(first|(refine mv ?_<;>refine qf ⟨⟨by (first|exact True.intro),rfl⟩,?_⟩));refine qp ?_;(first|(refine mv ?_<;>refine qf ⟨⟨by (first|exact True.intro),rfl⟩,?_⟩));((refine qp ?_;first|refine qo rfl rfl rfl rfl rfl ((Pg S.wf a b 0).mono ?_));rintro _ h ⟨rfl,x⟩)<;>((refine qf ⟨⟨True.intro,?_⟩,?_⟩;(focus ((show keepsX _ _ _ _ _;simp only [keepsX];(repeat' (first|exact True.intro|refine And.intro ?_ ?_));all_goals (intro hw;first|exact x.ext.old _ (S.bY (by assumption) (by assumption)))))));replace S:=S.join0 x;clear x)
 ((refine qp ?_;first|refine qo rfl rfl rfl rfl rfl ((GM S.wf (hr.ext w S.ext) hl hs ⟨YA a b,YB a b,0⟩).mono ?_));rintro _ h ⟨⟨i,f,rfl,q1,q2⟩,x⟩)<;>((refine qf ⟨⟨True.intro,?_⟩,?_⟩;(focus ((show keepsX _ _ _ _ _;simp only [keepsX];(repeat' (first|exact True.intro|refine And.intro ?_ ?_));all_goals (intro hw;first|exact absurd hw (by decide +kernel))))));replace S:=S.join0 x;clear x;refine qp ?_;(first|(refine vl ?_<;>refine qf ⟨⟨by (first|exact True.intro),rfl⟩,?_⟩));refine qp ?_;(first|(refine vl ?_<;>refine qf ⟨⟨by (first|exact True.intro),rfl⟩,?_⟩));refine qp ?_;(first|(refine mv ?_<;>refine qf ⟨⟨by (first|exact True.intro),rfl⟩,?_⟩));refine qp ?_;(first|(refine mv ?_<;>refine qf ⟨⟨by (first|exact True.intro),rfl⟩,?_⟩));refine Ji ?_)
 all_goals (repeat' (fail))
 refine qi ⟨_,rfl,?_⟩;exact ⟨⟨i,f,rfl,q1,q2⟩,S.drop⟩
end Go.Proofs.Xx
namespace Go.Proofs.Xx
open Go Go.Proofs
instance (x y:Ti):Decidable (Ze x y):=inferInstanceAs (Decidable (_∨_))
def yK (a b:List UInt8) (k:Int):Ti:=⟨YA a b,YB a b,k⟩
def tied (ts:List Ti) (a b:List UInt8):Prop:=∃ t∈ts,t.a=YA a b∧t.b=YB a b
def Gs:List Ti→Ti→List Ti
 | [],t=>[t]
 | x :: r,t=>if Ze x t then x :: Gs r t else t :: x :: r
open Classical in
noncomputable def Zg (r:Rl) (a b:List UInt8) (k:Int):Rl×Int :=
 if (k≠1∧k≠2)∨a=b then (r,23) else if gat r.us a=none∨gat r.us b=none then (r,6) else if tied r.ts a b then (r,5) else if 256≤r.ts.length then (r,7) else (⟨r.us,Gs r.ts (yK a b k)⟩,0)
theorem V5 {t:Ti}:∀ {l:List Ti} {i:Nat},Plc l t i→Gs l t=l.take i ++ t :: l.drop i
 | [],i,h=>by simp [Gs]
 | x :: r,0,h=>by
  have:=h.2.2 0 (zA3 _) (by simp);show (if Ze x t then _ else _)=_
  rw [if_neg (show ¬ Ze x t from this)];rfl
 | x :: r,i+1,h=>by
  have h0:=h.2.1 0 (Nat.succ_pos _);show (if Ze x t then _ else _)=_
  rw [if_pos (show Ze x t from h0),V5 (l:=r) (i:=i) ⟨by have:=h.1;simp at this;omega,fun j hj=>h.2.1 (j+1) (by omega),fun j h1 h2=>h.2.2 (j+1) (by omega) (by simp;omega)⟩];rfl
theorem Plc.tied {l:List Ti} {a b:List UInt8} {i:Nat} (hs:TS l) (h:Plc l ⟨YA a b,YB a b,0⟩ i):tied l a b↔i<l.length∧(l.getD i default).a=YA a b∧(l.getD i default).b=YB a b:=by
 constructor
 ·rintro ⟨t,ht,e1,e2⟩;obtain ⟨j,hj,rfl⟩:=List.mem_iff_getElem.1 ht;have eg:l.getD j default=l[j]:=by rw [zA2,zA4 hj];rfl
  have hji:i≤j:=by
   rcases zA7 j i with q|q
   ·have:=h.2.1 j q;rw [eg] at this;rcases this with q|q
    ·rw [e1] at q;exact absurd q (zS _)
    ·rw [e2] at q;exact absurd q.2 (zS _)
   ·exact q
  rcases zA7 i j with q|q
  ·have q1:=hs.lt q hj;rw [eg] at q1;refine absurd ?_ (h.2.2 i (zA3 _) (by omega));unfold Ze at q1 ⊢;rw [e1,e2] at q1;exact q1
  ·obtain rfl:i=j:=by omega
   rw [eg];exact ⟨hj,e1,e2⟩
 ·rintro ⟨h1,h2,h3⟩;refine ⟨_,List.getElem_mem h1,?_⟩;rw [show l[i]=l.getD i default by rw [zA2,zA4 h1];rfl];exact ⟨h2,h3⟩
theorem pI {r:Rl} {a b:List UInt8} {k:Int} (h:(k≠1∧k≠2)∨a=b):Zg r a b k=(r,23):=by unfold Zg;rw [if_pos h]
theorem KJ {r:Rl} {a b:List UInt8} {k:Int} (h:¬ ((k≠1∧k≠2)∨a=b)) (h2:gat r.us a=none∨gat r.us b=none):Zg r a b k=(r,6):=by unfold Zg;rw [if_neg h,if_pos h2]
theorem KL {r:Rl} {a b:List UInt8} {k:Int} (h:¬ ((k≠1∧k≠2)∨a=b)) (h2:¬ (gat r.us a=none∨gat r.us b=none)) (h3:tied r.ts a b):Zg r a b k=(r,5):=by unfold Zg;rw [if_neg h,if_neg h2,if_pos h3]
theorem KI {r:Rl} {a b:List UInt8} {k:Int} (h:¬ ((k≠1∧k≠2)∨a=b)) (h2:¬ (gat r.us a=none∨gat r.us b=none)) (h3:¬ tied r.ts a b) (h4:256≤r.ts.length):Zg r a b k=(r,7):=by unfold Zg;rw [if_neg h,if_neg h2,if_neg h3,if_pos h4]
theorem yJ {r:Rl} {a b:List UInt8} {k:Int} (h:¬ ((k≠1∧k≠2)∨a=b)) (h2:¬ (gat r.us a=none∨gat r.us b=none)) (h3:¬ tied r.ts a b) (h4:¬ 256≤r.ts.length):Zg r a b k=(⟨r.us,Gs r.ts (yK a b k)⟩,0):=by unfold Zg;rw [if_neg h,if_neg h2,if_neg h3,if_neg h4]
variable [Flag]
theorem qcJ {h0 h:AH} {rs:List Rs} {vt:SlV} {v1:Value} {l:List Ti} {t:Ti} (i:Nat) (hi:i≤l.length) (hl:l.length≤1000000) (S:Hs h0 h (.sl v1 174 3 XG [Qa t] :: .sl vt.val 174 3 Qa l :: rs)) :
 Fn Tryz.prog Xh 300 [vt.val,.int .i64 i,v1] h (fun u h'=>Hs h0 h' (.sl u 174 3 Qa (l.take i ++ t :: l.drop i) :: rs)):=by
 have hfl:=qN (enc:=Qa) (z:=3) (by intro _;rfl) l;obtain ⟨f1,k1,k2,f2,k3,k4,k5⟩:=S.sep;rcases k1 with ⟨-,k⟩|⟨vb,vo,vcc,vslk,vcap,rfl,g1,fv,t1,c1,s1⟩
 ·cases k
 replace S:Hs h0 h (.sl (.slice (some ⟨vb,vo,none⟩) 1 vcap) 174 3 XG [Qa t] :: .sl vt.val 174 3 Qa l :: rs):=S;show Fn Tryz.prog Xh 300 [vt.val,.int .i64 i,.slice (some ⟨vb,vo,none⟩) 1 vcap] h _
 by_cases hlt:i<l.length
 ·rcases k3 with ⟨-,rfl⟩|⟨b,o,cc,slk,cap,e2,g2,fb,t2,c2,s2⟩
  ·exact absurd hlt (by simp)
  rw [e2];have hne:(!Nat.beq b vb)=true:=by
   cases hq:Nat.beq b vb with
   | false=>rfl
   | true=>have:=zA6 hq;subst this;exact absurd fv (k4 b fb).2.2.2
  have hone:((l.flatMap Qa).all one?)=true:=by
   rw [zC8];intro x hx;obtain ⟨y,-,hy⟩:=zG8.1 hx;simp [Qa] at hy
   rcases hy with rfl|rfl|rfl<;>rfl
  refine Zd (v:=.slice (some ⟨h.next,0,none⟩) (l.length+1) (l.length+1)) (h':=(h.put b .dead).add (.cells ((l.flatMap Qa).take (i*3) ++ (Qa t ++ (l.flatMap Qa).drop (i*3))) 174 (some 3) false)) ?_ ?_
  ·show Zj X0 300 300 [.slice (some ⟨b,o,none⟩) l.length cap,.int .i64 (.ofNat i),.slice (some ⟨vb,vo,none⟩) 1 vcap] h=_
   unfold Zj;have hb1:Nat.blt i l.length=true:=by rw [Nat.blt_eq];exact hlt
   have t1':qU vcc vo 3=some (Qa t):=by simpa [XG] using t1
   have hc2:Nat.ble (o+cap*3) cc.length=true:=zB3 c2.2;have hsz:Nat.ble ((l.length+1)*40) 140737488355328=true:=zB3 (by omega);have hot:((Qa t).all one?)=true:=rfl;simp only [show Nat.beq 300 300=true from rfl,hb1,g2,g1,t2,t1',hc2,hsz,hone,hot,hne,Bool.and_true,show Nat.beq 174 174=true from rfl];rcases s2 with rfl|rfl<;>rfl
  ·have W:=(S.wf.put (k4 b fb).2.1 .dead)
   have S2:Hs h0 ((h.put b .dead).add (.cells ((l.flatMap Qa).take (i*3) ++ (Qa t ++ (l.flatMap Qa).drop (i*3))) 174 (some 3) false)) (.sl (.slice (some ⟨vb,vo,none⟩) 1 vcap) 174 3 XG [Qa t] :: .sl (.slice (some ⟨h.next,0,none⟩) (l.length+1) (l.length+1)) 174 3 Qa (l.take i ++ t :: l.drop i) :: rs):=by
    refine S.turn (.there .here) (Nat.le_succ _) (W.add _) fun fp q1 q2=>?_;rcases q1 with ⟨q1,-⟩|⟨b2,o2,cc2,sl2,cap2,q1,-,q3,-⟩
    ·rw [q1] at e2;cases e2
    obtain rfl:b2=b:=by rw [q1] at e2;cases e2;rfl
    refine ⟨fun j hj hf=>?_,fun j=>j=h.next,.inr ⟨h.next,0,(l.flatMap Qa).take (i*3) ++ (Qa t ++ (l.flatMap Qa).drop (i*3)),some 3,l.length+1,?_,?_,rfl,?_,⟨?_,?_⟩,.inr rfl⟩,fun j hj=>?_⟩
    ·rw [AH.get_add,if_neg (by show j≠h.next;omega),AH.get_put,if_neg];intro q;subst q;exact hf q3
    ·simp;omega
    ·rw [AH.get_add];exact if_pos rfl
    ·have e:((l.flatMap Qa).take (i*3) ++ (Qa t ++ (l.flatMap Qa).drop (i*3)))=(l.take i ++ t :: l.drop i).flatMap Qa:=by
      rw [List.flatMap_append,zG1,Qp (z:=3) (by intro _;rfl),Qq (z:=3) (by intro _;rfl)]
     rw [e];rw [← qN (enc:=Qa) (z:=3) (by intro _;rfl)];exact zM _
    ·simp;omega
    ·simp [hfl,Qa];omega
    ·subst hj;exact ⟨zF9 _,.inr (zA3 _)⟩
   exact S2.tail
 ·obtain rfl:i=l.length:=by omega
  have hX:Xh 300 [vt.val,.int .i64 l.length,.slice (some ⟨vb,vo,none⟩) 1 vcap] h=none:=by
   rcases k3 with ⟨e2,rfl⟩|⟨b,o,cc,slk,cap,e2,-⟩
   ·rw [e2];rfl
   ·rw [e2];show Zj X0 300 300 [.slice (some ⟨b,o,none⟩) l.length cap,.int .i64 (.ofNat l.length),.slice (some ⟨vb,vo,none⟩) 1 vcap] h=_
    unfold Zj;have hb1:Nat.blt l.length l.length=false:=by rw [← Bool.not_eq_true,Nat.blt_eq];omega
    simp only [show Nat.beq 300 300=true from rfl,hb1];rfl
  have hr:=Rd.of_sl S (.there .here);have hcap:=S.capS (.there .here);refine qF (hX) Tryz.func300 rfl rfl ?_;all_goals (repeat' (first|refine qg ?_|(refine qc 0 ?_;refine mv ?_;refine qf ?_)))
  (repeat (refine qg ?_));refine qc 1 ?_;refine mv ?_;refine mv ?_;refine su l.length l.length hr hcap (fun v' _ _=>?_);(refine qf ?_);all_goals (repeat' (first|refine qg ?_|refine qh rfl ?_|refine qj ?_|(refine qc 2 ?_;refine mv ?_;refine wM S rfl rfl ?_;refine mv ?_;refine qf ?_)|(refine qc 3 ?_;refine mv ?_;(first|(refine cS ?_ ?_<;>intro hc))<;>(refine qf ?_))|(refine qc 4 ?_;refine mv ?_;refine mv ?_;refine qf ?_)|(refine qc 5 ?_;refine mv ?_;refine wM S rfl rfl ?_;refine mv ?_;refine qf ?_)|(refine qc 6 ?_;refine mv ?_;refine mv ?_;(refine cT ?_)<;>(refine qf ?_))|(refine qc 7 ?_;refine mv ?_;refine mv ?_)))
  ·simp at hc
  ·refine app (y0:=t) S rfl rfl ?_;clear S;intro v h S;(refine mv ?_;refine qf ?_);all_goals (repeat' (fail))
   refine qi ⟨_,rfl,?_⟩;simp only [zD4,List.drop_length];exact S
  all_goals exact absurd rfl (by assumption)
theorem qaO {h0 h:AH} {rs:List Rs} {p:Nat} {r:Rl} (S:Hs h0 h (Jn p r :: rs)) (a b:List UInt8) (k:Int) (hl:r.ts.length≤256) (hs:TS r.ts) :
 Fn Tryz.prog Xh 261 [.pointer (some ⟨p,0,none⟩),str a,str b,.int .u8 k] h (fun v h'=>v = .int .i64 (Zg r a b k).2∧Hs h0 h' (Jn p (Zg r a b k).1 :: rs)):=by
 obtain ⟨⟨vg,vt,m,mp,gs⟩,⟨q1,q2⟩,S⟩:=S.unpack;have e1:gs.length=r.us.length:=by rw [← q1];simp
 dsimp only [bkL,List.cons_append,List.nil_append] at q1 q2 S;refine qF (by first|rfl) Tryz.func261 rfl rfl ?_;all_goals (repeat' (first|refine qg ?_|(refine qc 0 ?_;refine mv ?_;refine qf ?_)|(refine qc 1 ?_;refine mv ?_)))
 (refine qo rfl rfl rfl rfl rfl ((Kq S.wf (J5 S .here)).mono ?_);rintro _ h ⟨rfl,x⟩)<;>(replace S:=S.join0 x;clear x;refine qf ?_)
 all_goals (repeat' (first|refine qg ?_|refine qh rfl ?_|refine qj ?_))
 (repeat (refine qg ?_));first|refine zL (σ:=Unit) (fun _ h'=>¬ ((k≠1∧k≠2)∨a=b)∧Hs h0 h' (.blk p [vg.val,vt.val,.map (some m)] 298 :: .sl vg.val 125 9 eG gs :: .sl vt.val 174 3 Qa r.ts :: .mp m (.int .i64) mp :: KP gs :: rs)) (fun _=>[(0,.pointer (some ⟨p,0,none⟩)),(1,str a),(2,str b),(3,.int .u8 k)]) ?_ ?_
 ·all_goals (repeat' (first|refine qg ?_|refine qh rfl ?_|refine qj ?_|(refine qc 3 ?_;refine mv ?_;(first|(refine cS ?_ ?_<;>intro hc))<;>(refine mv ?_;(first|refine off ?_|refine mv ?_);(first|refine off ?_|(first|(refine cS ?_ ?_<;>intro hc)))<;>(refine vl ?_;refine mv ?_;(first|refine off ?_|refine mv ?_);(first|refine off ?_|refine mv ?_);(first|refine off ?_|(refine tS ?_ ?_<;>intro hc))<;>(refine vl ?_;refine qf ?_))))|(refine qc 4 ?_;refine mv ?_;refine qf ?_)))
  all_goals first
   | exact ⟨(),⟨by omega,S⟩,((by repeat (fail)))⟩
   | exact ⟨(),⟨by grind,S⟩,(qw)⟩
   | ((refine qi ⟨_,rfl,?_⟩);rw [pI (by first|omega|grind)];exact ⟨rfl,S.bk vg vt m mp gs q1 q2⟩)
 clear S;rintro - h ⟨hk,S⟩;all_goals (repeat' (first|refine qg ?_|(refine qc 5 ?_;refine mv ?_;refine mv ?_)))
 refine bsn (α:=List UInt8) (z:=1) eS [a,b] S ?_;clear S;intro u h S;((refine wM S rfl rfl ?_);refine mv ?_;refine qf ?_);all_goals (repeat' (refine ql ?_))
 refine qG (σ:=Nat) (fun i h'=>Hs h0 h' (.sl u 9 1 eS [a,b] :: .blk p [vg.val,vt.val,.map (some m)] 298 :: .sl vg.val 125 9 eG gs :: .sl vt.val 174 3 Qa r.ts :: .mp m (.int .i64) mp :: KP gs :: rs)∧i≤2∧∀ j,j<i→gat r.us ([a,b].getD j default)≠none) (fun i=>2 - i) (fun i=>[(0,.pointer (some ⟨p,0,none⟩)),(1,str a),(2,str b),(3,.int .u8 k),(30,u),(31,.int .i64 ([a,b].length:Nat)),(32,.int .i64 i)]) 0 qw ?_ ?_
 ·exact ⟨S,zB0 _,fun j hj=>absurd hj (zB7 _)⟩
 clear S;rintro i h ⟨S,g1,g2⟩;all_goals (repeat' (first|refine qg ?_|refine qh rfl ?_|refine qj ?_|refine qx ?_|refine ql ?_|(refine qc 6 ?_;(first|(refine cS ?_ ?_<;>intro hc))<;>(refine qf ?_))|(refine qc 7 ?_;refine Xc S rfl rfl ?_;refine XD S rfl rfl ?_;refine mv ?_;refine qf ?_)|(refine qc 8 ?_;refine mv ?_;refine vl ?_;refine vl ?_;refine lB S rfl rfl ?_;refine mv ?_)|(refine qc 12 ?_;(iterate 3 refine mv ?_);skip)))
 ·have hi2:i<2:=by simp at hc;omega
  simp only [zA0];refine lk S (.there (.there (.there (.there .here)))) (fun y hy=>?_) (fun hy=>?_)
  ·simp only [okV];(refine mv ?_;refine vl ?_;refine vl ?_;refine mv ?_;refine mv ?_;refine qf ?_);all_goals (repeat' (first|refine qg ?_|refine qh rfl ?_|refine qj ?_|(refine qc 9 ?_;refine mv ?_;refine vl ?_;refine qf ?_)|(refine qc 11 ?_;refine ad ?_;refine mv ?_;refine qf ?_)))
   refine ⟨i+1,?_,?_,qw⟩
   ·show 2 - (i+1)<2 - i;omega
   ·refine ⟨S,by omega,jr g2 fun q=>?_⟩;rw [q2,q] at hy;cases hy
  ·simp only [okV];(refine mv ?_;refine vl ?_;refine vl ?_;refine mv ?_;refine mv ?_;refine qf ?_);all_goals (repeat' (first|refine qg ?_|refine qh rfl ?_|(refine qc 9 ?_;refine mv ?_;refine vl ?_;refine qf ?_)|(refine qc 10 ?_;refine mv ?_;refine qf ?_)))
   refine qi ⟨_,rfl,?_⟩;rw [q2] at hy;have hn:gat r.us ([a,b].getD i default)=none:=by
    cases hq:gat r.us ([a,b].getD i default) with
    | none=>rfl
    | some z=>rw [hq] at hy;cases hy
   rw [KJ hk (by
    rcases (show i=0∨i=1 by omega) with rfl|rfl
    ·exact .inl hn
    ·exact .inr hn)]
   exact ⟨rfl,S.bk vg vt m mp gs q1 q2⟩
 ·have hi2:i=2:=by simp at hc;omega
  have hk2:¬ (gat r.us a=none∨gat r.us b=none):=fun q=>by
   rcases q with q|q
   ·exact g2 0 (by omega) q
   ·exact g2 1 (by omega) q
  (refine qo rfl rfl rfl rfl rfl ((qbm S.wf (J5 S (.there .here)) (Rd.of_sl S (.there (.there (.there .here)))) (by omega) hs a b).mono ?_);rintro _ h ⟨⟨j,_ | _,rfl,p1,p2⟩,x⟩)<;>(replace S:=S.join0 x;clear x;refine mv ?_;refine vl ?_;refine vl ?_;refine mv ?_;refine mv ?_;refine qf ?_)
  ·have hk3:¬ tied r.ts a b:=fun q=>by have:=p2.2 ((p1.tied hs).1 q);cases this
   all_goals (repeat' (first|refine qg ?_|refine qh rfl ?_|refine qj ?_|(refine qc 13 ?_;refine mv ?_;refine qf ?_)|(refine qc 15 ?_;refine mv ?_;refine vl ?_;refine vl ?_;refine vl ?_;refine lB S rfl rfl ?_;refine wM S rfl rfl ?_;(first|(refine cS ?_ ?_<;>intro hc))<;>(refine qf ?_))|(refine qc 16 ?_;refine mv ?_;refine qf ?_)))
   ·refine qi ⟨_,rfl,?_⟩;rw [KI hk hk2 hk3 (by omega)];exact ⟨rfl,S.bk vg vt m mp gs q1 q2⟩
   ·have hk4:¬ 256≤r.ts.length:=by omega
    (repeat (refine qg ?_));refine Zy (id:=17) [(5,(0,2))] [some (p)] ?_;refine qp ?_;(first|(refine mv ?_<;>refine qf ⟨⟨by (first|exact True.intro),rfl⟩,?_⟩));refine qp ?_;(first|(refine mv ?_<;>refine qf ⟨⟨by (first|exact True.intro),rfl⟩,?_⟩));refine qp ?_;(first|(refine vl ?_<;>refine qf ⟨⟨by (first|exact True.intro),rfl⟩,?_⟩));refine qp ?_;(first|(refine vl ?_<;>refine qf ⟨⟨by (first|exact True.intro),rfl⟩,?_⟩));refine qp ?_;(first|(refine vl ?_<;>refine qf ⟨⟨by (first|exact True.intro),rfl⟩,?_⟩));refine qp ?_;(first|(refine lB S rfl rfl ?_<;>refine qf ⟨⟨by (first|exact Or.inr rfl),rfl⟩,?_⟩));refine qp ?_;(first|(refine mv ?_<;>refine qf ⟨⟨by (first|exact True.intro),rfl⟩,?_⟩));refine qp ?_;(first|(refine mv ?_<;>refine qf ⟨⟨by (first|exact True.intro),rfl⟩,?_⟩));refine qp ?_;(first|(refine mv ?_<;>refine qf ⟨⟨by (first|exact True.intro),rfl⟩,?_⟩));refine qp ?_;(first|(refine mv ?_<;>refine qf ⟨⟨by (first|exact True.intro),rfl⟩,?_⟩));((refine qp ?_;first|refine qo rfl rfl rfl rfl rfl ((Pg S.wf a b k).mono ?_));rintro _ h ⟨rfl,x⟩)<;>((refine qf ⟨⟨True.intro,?_⟩,?_⟩;(focus ((show keepsX _ _ _ _ _;simp only [keepsX];(repeat' (first|exact True.intro|refine And.intro ?_ ?_));all_goals (intro hw;first|exact x.ext.old _ S.bB)))));replace S:=S.join0 x;clear x;refine qp ?_;(first|((refine one 3 S ?_;have S0:=S;clear S;intro u h S);refine qf ⟨⟨True.intro,?_⟩,?_⟩;(focus ((show keepsX _ _ _ _ _;simp only [keepsX];(repeat' (first|exact True.intro|refine And.intro ?_ ?_));all_goals (intro hw;first|exact (S.gB).trans (S0.gB).symm))));clear S0)))
    replace S:Hs h0 _ (.sl u 174 3 XG [Qa (yK a b k)] :: _):=S;have S:=(show Hs h0 _ (.sl u 174 3 XG [Qa (yK a b k)] :: .sl vt.val 174 3 Qa r.ts :: .blk p [vg.val,vt.val,.map (some m)] 298 :: .sl vg.val 125 9 eG gs :: .mp m (.int .i64) mp :: KP gs :: rs) from S.pick)
    refine qp ?_;refine qo rfl rfl rfl rfl rfl ((qcJ j p1.1 (by omega) S).mono ?_);have S0:=S;clear S;rintro v h S;obtain ⟨vt',rfl⟩:=S.sV v;refine qf ⟨⟨True.intro,?_⟩,?_⟩;(focus ((show keepsX _ _ _ _ _;simp only [keepsX];(repeat' (first|exact True.intro|refine And.intro ?_ ?_));all_goals (intro hw;first|exact absurd hw (by decide +kernel)))));clear S0;(refine qp ?_;(first|(refine vl ?_<;>refine qf ⟨⟨by (first|exact True.intro),rfl⟩,?_⟩));refine qp ?_;(first|(refine vl ?_<;>refine qf ⟨⟨by (first|exact True.intro),rfl⟩,?_⟩));refine qp ?_;(first|(refine vl ?_<;>refine qf ⟨⟨by (first|exact True.intro),rfl⟩,?_⟩));refine qp ?_;(first|((refine sB S rfl rfl ?_;have S0:=S;clear S;intro h S);refine qf ⟨⟨True.intro,?_⟩,?_⟩;(focus ((show keepsX _ _ _ _ _;simp only [keepsX];(repeat' (first|exact True.intro|refine And.intro ?_ ?_));all_goals (intro hw;first|exact absurd hw (by decide +kernel)))));clear S0));refine Ji ?_);all_goals (repeat' (first|refine qg ?_|(refine qc 18 ?_;refine mv ?_;refine qf ?_)))
    refine qi ⟨_,rfl,?_⟩;rw [yJ hk hk2 hk3 hk4,V5 (t:=yK a b k) p1];replace S:Hs h0 h (.sl vt'.val 174 3 Qa (r.ts.take j ++ yK a b k :: r.ts.drop j) :: .blk p [vg.val,vt'.val,.map (some m)] 298 :: _):=S;exact ⟨rfl,S.bk vg vt' m mp gs q1 q2⟩
  ·have hk3:tied r.ts a b:=(p1.tied hs).2 (p2.1 rfl);all_goals (repeat' (first|refine qg ?_|refine qh rfl ?_|(refine qc 13 ?_;refine mv ?_;refine qf ?_)|(refine qc 14 ?_;refine mv ?_;refine qf ?_)))
   refine qi ⟨_,rfl,?_⟩;rw [KL hk hk2 hk3];exact ⟨rfl,S.bk vg vt m mp gs q1 q2⟩
end Go.Proofs.Xx
