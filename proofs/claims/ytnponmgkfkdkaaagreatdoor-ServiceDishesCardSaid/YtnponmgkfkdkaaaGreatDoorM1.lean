/-
  The other operations that turn no memory that was there: what the checked run does,the machine does.
-/
import Derived.Test.YtnponmgkfkdkaaaGreatDoorM0
import Derived.IntWalk
import Derived.Laws.StructEq
set_option linter.unusedSectionVars false
set_option linter.unusedSimpArgs false
set_option linter.unusedVariables false
namespace Go.Proofs.Xx
open Go
section
variable {P:Program}
theorem Vq (bs:ByteArray):∀ (n i:Nat) (r:List UInt8),bs.size - i=n→ByteArray.toList.loop bs i r=r.reverse ++ bs.data.toList.drop i:=by
 intro n;induction n with
 | zero =>
  intro i r h;rw [ByteArray.toList.loop,if_neg (by omega),List.drop_eq_nil_of_le (by rw [zC2];exact (by omega:bs.size≤i)),zD6]
 | succ n ih =>
  intro i r h;have hi:i<bs.size:=by omega
  rw [ByteArray.toList.loop,if_pos hi,ih _ _ (by omega),List.reverse_cons,zF2];congr 1
  have h2:i<bs.data.toList.length:=by rw [zC2];exact hi
  rw [zG7 h2];simp only [List.singleton_append,List.cons.injEq,and_true];simp only [ByteArray.get!,Array.getElem_toList];exact getElem!_pos bs.data i hi
theorem jT (bs:ByteArray):bs.toList=bs.data.toList:=by
 unfold ByteArray.toList;rw [Vq bs _ 0 [] rfl];simp
theorem qai (s:ByteArray) (l:List UInt8) (h:s.data.toList=l):(⟨l.toArray⟩:ByteArray)=s:=by
 subst h;cases s;simp
theorem qhB (a b:ByteArray):zA a b=(a.toList == b.toList):=by unfold zA;rw [jT,jT]
theorem QH (a:ByteArray):a.size=a.data.toList.length:=by rw [zC2];rfl
inductive PRs (f:Emb):List (Nat×Value)→List (Nat×Value)→Prop where
 | nil:PRs f [] []
 | cons (i:Nat) (v v':Value) (r r':List (Nat×Value)) (h:VR f v v') (hr:PRs f r r'):PRs f ((i,v) :: r) ((i,v') :: r')
theorem Zf {f:Emb} {sz:Nat} {t:Tr Value} {tm:Array Value} (T:TR f sz t tm):∀ {os:List (Nat×Operand)} {vs:List (Nat×Value)},jG t os=some vs→PRs f vs (os.map fun (i,x)=>(i,Zn tm x))
 | [],vs,h=>by cases h;exact .nil
 | (i,o) :: r,vs,h=>by
  simp only [jG] at h;split at h
  ·cases h
   exact .cons _ _ _ _ _ (qF T ‹_›) (Zf T ‹_›)
  ·cases h
theorem yG (off:Nat):∀ (xs:List Value) (k:Nat) (cells:Array Value),off+k+xs.length≤cells.size →
 (xs.zipIdx k).foldl (fun cs (p:Value×Nat)=>cs.setIfInBounds (off+p.2) p.1) cells=(splice cells.toList (off+k) xs).toArray
 | [],k,cells,h=>by
  apply Array.ext'
  simp [splice]
 | v :: rest,k,cells,h=>by
  simp only [zC4] at h;rw [List.zipIdx_cons,List.foldl_cons,yG off rest (k+1) _ (by simp;omega)];apply Array.ext'
  simp only [Array.toList_setIfInBounds];apply List.ext_getElem?
  intro j;have hc:cells.toList.length=cells.size:=zC2;rw [jg _ _ _ (by rw [zF5];omega),jg _ _ _ (by simp only [zC4];omega)];simp only [zC4];by_cases k1:j<off+k
  ·rw [if_pos (by omega),if_pos k1,List.getElem?_set_ne (by omega)]
  ·rw [if_neg k1];by_cases k2:j=off+k
   ·subst k2;rw [if_pos (by omega),if_pos (by omega),List.getElem?_set_self (by omega)];simp
   ·rw [if_neg (by omega)];by_cases k3:j<off+k+(rest.length+1)
    ·rw [if_pos (by omega),if_pos k3,show j - (off+k)=(j - (off+(k+1)))+1 by omega];simp
    ·rw [if_neg (by omega),if_neg k3,List.getElem?_set_ne (by omega)]
theorem Zm {f:Emb} {place:Nat→Option (Nat×Nat)}:∀ {parts parts':List (Nat×Value)} {c c' d:List Value},Vl place c parts=some d→VRs f c c'→PRs f parts parts' →
 ∃ d',Instr.fill place c'.toArray parts'=some d'.toArray∧VRs f d d'
 | [],_,c,c',d,h,hc,.nil=>by cases h;exact ⟨c',rfl,hc⟩
 | (i,v) :: rest,_,c,c',d,h,hc,.cons _ _ v' _ r' hv hr=>by
  simp only [Vl] at h;split at h
  ·cases h
  ·rename_i off size hp
   split at h
   ·rename_i hb
    simp only [zA8] at hb;have h1:v.cells.toList.length=size:=zA6 hb.1;have h2:=zB6 hb.2;have h3:=hv.cells.length;have h4:=hc.length;obtain ⟨d',q1,q2⟩:=Zm h (hc.splice hv.cells off) hr;refine ⟨d',?_,q2⟩;have h5:v'.cells.toList.length=v'.cells.size:=zC2;simp only [Instr.fill,hp];rw [if_neg (by
     have h6:c'.toArray.size=c'.length:=zE5;simp only [zG8,decide_eq_true_eq];rintro (q|q)
     ·exact q (by omega)
     ·omega),← q1]
    congr 1
    rw [← Array.foldl_toList,Array.toList_zipIdx];exact yG off v'.cells.toList 0 c'.toArray (by simp only [zE5];omega)
   ·cases h
theorem xX:∀ {fs:List Field} {ps:List (Nat×Nat)},WY P fs=some ps→fs.mapM (fun f=>(P.info? f.type).map fun i=>(f.offset,i.size))=some ps
 | [],ps,h=>by cases h;rfl
 | fd :: fs,ps,h=>by
  simp only [WY] at h;split at h
  ·rename_i n r hn hr
   cases h
   unfold zU at hn;cases hi:P.info? fd.type with
   | none=>rw [hi] at hn;cases hn
   | some i =>
    rw [hi] at hn;cases hn
    simp [List.mapM_cons,hi,xX hr]
  ·cases h
theorem GI {f:Emb} {w:World} {t:TypeId} {parts parts':List (Nat×Value)} {v:Value} (h:qbw P t parts=some v) (hp:PRs f parts parts') :
 ∃ v',(Instr.build t parts'.toArray).run P w = .ok v' w∧VR f v v':=by
 unfold qbw at h;split at h
 ·rename_i z hz
  unfold Yo at hz;cases hi:P.info? t with
  | none=>rw [hi] at hz;cases hz
  | some it =>
   rw [hi] at hz;simp only at hz;split at h
   ·rename_i hpl
    have hzr:=(VR.plain f z hpl).cells;split at h
    ·rename_i fs hu
     split at h
     ·rename_i ps hps
      split at h
      ·rename_i c hc
       cases h
       obtain ⟨d',q1,q2⟩:=Zm hc hzr hp;refine ⟨.agg d'.toArray,?_,.agg _ _ q2⟩;refine run_build w t _ _ ?_;unfold Program.built;rw [hi,hu];simp only [hz,xX hps,zF6];rw [← q1];simp
      ·cases h
     ·cases h
    ·rename_i n e hu
     split at h
     ·rename_i m hm
      split at h
      ·rename_i c hc
       cases h
       obtain ⟨d',q1,q2⟩:=Zm hc hzr hp;refine ⟨.agg d'.toArray,?_,.agg _ _ q2⟩;refine run_build w t _ _ ?_;unfold zU at hm;cases he:P.info? e with
       | none=>rw [he] at hm;cases hm
       | some ie =>
        rw [he] at hm;cases hm
        unfold Program.built;rw [hi,hu];simp only [hz,he,zF6];rw [← q1]
      ·cases h
     ·cases h
    ·cases h
   ·cases h
 ·cases h
theorem Ql (z:List Value):∀ k,(zn z k).length=k*z.length
 | 0=>by simp [zn]
 | k+1=>by simp only [zn,zB2,Ql z k,Nat.succ_mul,Nat.add_comm]
theorem V8 (z:List Value) (hz:z.length≠0):∀ k i,i<k*z.length→(zn z k)[i]? = z[i % z.length]?
 | 0,i,h=>by omega
 | k+1,i,h=>by
  rw [Nat.succ_mul] at h;simp only [zn,zF0];by_cases hi:i<z.length
  ·rw [if_pos hi,Nat.mod_eq_of_lt hi]
  ·rw [if_neg hi,V8 z hz k _ (by omega)];congr 1
   exact (Nat.mod_eq_sub_mod (by omega:i≥z.length)).symm
theorem Q8 {zv:Array Value} {z:List Value} (h:zv.toList=z) (hz:z.length≠0) (k:Nat):(Array.range (k*z.length)).map (fun i=>zv[i % zv.size]!)=(zn z k).toArray:=by
 subst h;apply Array.ext'
 apply List.ext_getElem?
 intro i;have hs:zv.toList.length=zv.size:=zC2;by_cases hi:i<k*zv.toList.length
 ·have hlt:i % zv.size<zv.size:=Nat.mod_lt _ (by omega);rw [V8 _ hz k i hi];rw [hs] at hi;simp only [zC1,Array.getElem?_map,Array.getElem?_range,hs,if_pos hi,Option.map_some];rw [zE1 hlt];exact congrArg some (getElem!_pos zv _ hlt)
 ·have h1:=Ql zv.toList k;rw [zG5 (by simp only [zC2,Array.size_map,Array.size_range];rw [hs] at hi;omega),zG5 (by simp only [zF6];rw [h1];omega)]
theorem VRs.zn {f:Emb} {z:List Value} (h:VRs f z z):∀ k,VRs f (Xx.zn z k) (Xx.zn z k)
 | 0=>.nil
 | k+1=>h.append (VRs.zn h k)
theorem hr0:Array.range 0=(#[]:Array Nat):=rfl
theorem Vu [Glob] {B:Bs} {f:Emb} {h h':AH} {w:World} (r:Rel B f h w) {t:TypeId} {len:Nat} {parts parts':List (Nat×Value)} {v:Value}
 (hb:jw P t len parts h=some (v,h')) (hp:PRs f parts parts') :
 ∃ f' v' w',(Instr.buildSlice t len parts'.toArray).run P w = .ok v' w'∧Rel B f' h' w'∧Turn f h w f' h' w'∧VR f' v v':=by
 unfold jw at hb;split at hb
 ·rename_i e he
  have hu:=QQ he;split at hb
  ·rename_i z hz
   obtain ⟨i,zv,hi,hzv,hzl,hsz,hz0,hpl⟩:=jy hz;split at hb
   ·rename_i hle
    have hle:=zB6 hle;split at hb
    ·rename_i c hc
     cases hb
     have hzr:VRs f z z:=by rw [← hzl];exact (VR.plain f zv hpl).cells
     obtain ⟨d',q1,q2⟩:=Zm hc (hzr.zn len) hp;have hpush:=zV w (.cells d'.toArray e);obtain ⟨r1,r2⟩:=r.new q2 hpush;refine ⟨_,.slice (some ⟨w.heap.size,0,none⟩) len len,_,?_,r1,r2,?_⟩
     ·have hsr:(sizeOf e).run P w = .ok z.length w:=by simp [sizeOf,typeInfo,hi,hsz]
      have hzrun:(zeroValue e).run P w = .ok zv w:=by simp [zeroValue,typeInfo,hi,hzv]
      simp only [Instr.buildSlice,zA5,run_underlying hu,zA1,hsr,if_neg (show ¬ (len*z.length > 2 ^ 24) by omega)];by_cases hl0:len*z.length=0
      ·have:len=0:=by
        rcases Nat.mul_eq_zero.1 hl0 with h|h
        ·exact h
        ·exact absurd h hz0
       subst this;have q1':Instr.fill (fun i=>some (i*z.length,z.length)) #[] parts'=some d'.toArray:=q1;simp only [Nat.zero_mul,if_true,zB1,zA1];simp only [hr0,Array.map_empty,zF6,q1',newRow,zA5,run_newObj,zA1,zB1]
      ·rw [if_neg hl0];simp only [zA5,hzrun,zA1,zB1];have hzz:(Array.range (len*z.length)).map (fun i=>zv.cells[i % zv.cells.size]!)=(zn z len).toArray:=Q8 hzl hz0 len;rw [hzz];simp only [zF6,q1,newRow,zA5,run_newObj,zA1,zB1]
     ·exact VR.slice h.next 0 _ len len ⟨w.heap.size,0,0⟩ (Emb.qP _ _ _) (zA3 _) (.inl rfl)
    ·cases hb
   ·cases hb
  ·cases hb
 ·cases hb
end
end Go.Proofs.Xx
namespace Go.Proofs.Xx
open Go
section
variable {P:Program}
theorem G5 (n:Nat) (h:n<9223372036854775808):IntKind.i64.wrap (n:Int)=(n:Int):=IntWalk.i64_in _ (by omega)
theorem VZ [Glob] {B:Bs} {f:Emb} {h h':AH} {w:World} (r:Rel B f h w) {t:TypeId} {l l' c c' v:Value}
 (hb:QJ P t l c h=some (v,h')) (hl:VR f l l') (hc:VR f c c') :
 ∃ f' v' w',(Instr.makeSlice t l' c').run P w = .ok v' w'∧Rel B f' h' w'∧Turn f h w f' h' w'∧VR f' v v':=by
 unfold QJ at hb;split at hb
 ·rename_i n m
  cases hl;cases hc
  split at hb
  ·rename_i e he
   have hu:=QQ he;split at hb
   ·rename_i z by_ hz hby
    obtain ⟨i,zv,hi,hzv,hzl,hsz,hz0,hpl⟩:=jy hz;split at hb
    ·rename_i hq
     cases hb
     simp only [zA8] at hq;have h1:=zB6 hq.1;have h2:=zB6 hq.2;have h3:i.bytes=by_:=by unfold QI at hby;rw [hi] at hby;cases hby;rfl
     have hm1:m*by_+m≤140737488355328:=by rw [Nat.mul_succ] at h2;exact h2
     have hzr:VRs f z z:=by rw [← hzl];exact (VR.plain f zv hpl).cells
     have hpush:=zV w (.cells (zn z m).toArray e);obtain ⟨r1,r2⟩:=r.new (hzr.zn m) hpush;refine ⟨_,.slice (some ⟨w.heap.size,0,none⟩) n m,_,?_,r1,r2,?_⟩
     ·have hsr:(sizeOf e).run P w = .ok z.length w:=by simp [sizeOf,typeInfo,hi,hsz]
      have hzrun:(zeroValue e).run P w = .ok zv w:=by simp [zeroValue,typeInfo,hi,hzv]
      have hti:(typeInfo e).run P w = .ok i w:=by simp [typeInfo,hi]
      have hn:IntKind.i64.wrap (Int.ofNat n)=(n:Int):=G5 n (by omega);have hm:IntKind.i64.wrap (Int.ofNat m)=(m:Int):=G5 m (by omega);have hbm:((by_:Nat):Int)*(m:Int)≤281474976710656:=by
       have h5:by_*m≤140737488355328:=by rw [Nat.mul_comm];omega
       have h6:((by_*m:Nat):Int)≤281474976710656:=by omega
       rw [Int.natCast_mul] at h6;exact h6
      have hc1:(decide ((m:Int)<0) || decide ((by_:Int)*(m:Int) > 2 ^ 48) || decide ((n:Int)<0) || decide ((n:Int) > (m:Int)))=false:=by
       rw [show (2:Int) ^ 48=281474976710656 from rfl];simp only [Bool.or_eq_false_iff,decide_eq_false_iff_not];omega
      simp only [Instr.makeSlice,zA5,run_underlying hu,zA1,asInt,asIntOf,zB1,hti,h3,hn,hm];simp only [hc1,zD8,if_false,zA5,run_askRoom,zA1,zA0,hsr];by_cases hl0:m*z.length=0
      ·have:m=0:=by
        rcases Nat.mul_eq_zero.1 hl0 with h|h
        ·exact h
        ·exact absurd h hz0
       subst this;simp only [Nat.zero_mul,if_true,zB1,zA1,hr0,Array.map_empty,newRow,zA5,run_newObj];rfl
      ·rw [if_neg hl0];simp only [zA5,hzrun,zA1,zB1];have hzz:(Array.range (m*z.length)).map (fun i=>zv.cells[i % zv.cells.size]!)=(zn z m).toArray:=Q8 hzl hz0 m;rw [hzz];simp only [newRow,zA5,run_newObj,zA1,zB1]
     ·exact VR.slice h.next 0 _ n m ⟨w.heap.size,0,0⟩ (Emb.qP _ _ _) h1 (.inl rfl)
    ·cases hb
   ·cases hb
  ·cases hb
 ·cases hb
theorem Wy {f:Emb} {cs cs':Array Value} (h:VRs f cs.toList cs'.toList) {o n:Nat} {xs:List Value} (ht:zq cs.toList o n=some xs):VR f (.agg xs.toArray) (.agg (cs'.extract o (o+n))):=by
 obtain ⟨rfl,-,-⟩:=JD ht;have:(cs'.extract o (o+n))=((cs'.toList.drop o).take n).toArray:=by
  apply Array.ext'
  simp only [Array.toList_extract,List.extract_eq_take_drop];rw [show o+n - o=n by omega]
 rw [this];exact .agg _ _ ((h.drop o).take n)
theorem VR.Yh {f:Emb} {cs:Array Value} {v:Value} (h:VR f (.agg cs) v):∃ cs':Array Value,v = .agg cs'∧VRs f cs.toList cs'.toList:=by
 generalize hx:Value.agg cs=x at h
 cases h with
 | agg c c' h=>cases hx;exact ⟨_,rfl,by simpa using h⟩
 | _=>cases hx
theorem VR.ww {f:Emb} {cs:Array Value} {v:Value} (h:VR f (.tuple cs) v):∃ cs':Array Value,v = .tuple cs'∧VRs f cs.toList cs'.toList:=by
 generalize hx:Value.tuple cs=x at h
 cases h with
 | tuple c c' h=>cases hx;exact ⟨_,rfl,by simpa using h⟩
 | _=>cases hx
theorem VR.PV {f:Emb} {g:FuncId} {a c:Array Value} {v:Value} (h:VR f (.func (.func g) a c) v):∃ a' c':Array Value,v = .func (.func g) a' c'∧VRs f a.toList a'.toList∧VRs f c.toList c'.toList:=by
 generalize hx:Value.func (.func g) a c=x at h
 cases h with
 | func g a a' c c' h1 h2=>cases hx;exact ⟨_,_,rfl,by simpa using h1,by simpa using h2⟩
 | _=>cases hx
theorem VR.qcg {f:Emb} {l:Nat} {v:Value} (h:VR f (.func (.yield l) #[] #[]) v):∃ L,f l=some L∧v = .func (.yield L.blk) #[] #[]:=by
 generalize hx:Value.func (.yield l) #[] #[]=x at h
 cases h with
 | yield l L h=>cases hx;exact ⟨L,h,rfl⟩
 | _=>cases hx
theorem GG {f:Emb} {w:World} {t:TypeId} {x x' v:Value} {k:Nat} (h:qbu P t x k=some v) (hx:VR f x x') :
 ∃ v',(Instr.field t x' k).run P w = .ok v' w∧VR f v v':=by
 unfold qbu at h;split at h
 ·rename_i cs fs hu
  obtain ⟨cs',rfl,hcs⟩:=hx.Yh;split at h
  ·rename_i fd hfd
   split at h
   ·rename_i hagg
    split at h
    ·rename_i n hn
     split at h
     ·rename_i xs hxs
      cases h
      refine ⟨_,?_,Wy hcs hxs⟩;simp only [Instr.field,zA5,run_underlying hu,zA1,hfd,asAgg,zB1,part,Qr hagg,if_true,zG hn]
     ·cases h
    ·cases h
   ·rename_i hagg
    obtain ⟨v',q1,q2⟩:=hcs.get _ _ h;refine ⟨v',?_,q2⟩;rw [zC1] at q1;simp only [Instr.field,zA5,run_underlying hu,zA1,hfd,asAgg,zB1,part,Qr hagg,zD8,if_false,q1]
   ·cases h
  ·cases h
 ·cases h
theorem V5 {f:Emb} {w:World} {t:TypeId} {x x' v:Value} {k:Nat} (h:Xp P t x k=some v) (hx:VR f x x') :
 ∃ v',(Instr.fieldAt t x' k).run P w = .ok v' w∧VR f v v':=by
 unfold Xp at h;split at h
 ·rename_i b o fs hu
  obtain ⟨L,hL,rfl⟩:=hx.zO;split at h
  ·rename_i fd hfd
   split at h
   ·rename_i n hn
    cases h
    refine ⟨_,?_,.pointer _ _ L hL⟩;simp only [Instr.fieldAt,zA5,run_underlying hu,zA1,hfd,Instr.sureAddr,zB1,fieldPlace,zG hn];rw [if_neg (by omega)];simp only [zB1,zA1,jJ,zF7]
   ·cases h
  ·cases h
 ·cases h
theorem V3 {f:Emb} {w:World} {t:TypeId} {x x' i i' v:Value} (h:jB P t x i=some v) (hx:VR f x x') (hi:VR f i i') :
 ∃ v',(Instr.indexAt t x' i').run P w = .ok v' w∧VR f v v':=by
 unfold jB at h;split at h
 ·rename_i b o kk k len e hu
  obtain ⟨L,hL,rfl⟩:=hx.zO;cases hi
  split at h
  ·rename_i n hlt hn
   cases h
   have hlt:k<len:=by rw [Nat.blt_eq] at hlt;exact hlt
   refine ⟨_,?_,.pointer _ _ L hL⟩;have hcond:0≤(Int.ofNat k)∧(Int.ofNat k)<(len:Int):=by
    constructor
    ·exact Int.natCast_nonneg k
    ·exact Int.ofNat_lt.2 hlt
   simp only [Instr.indexAt,zA5,asIntOf,run_underlying hu,zA1,Instr.sureAddr,zB1];rw [if_pos hcond];simp only [zA5,zG hn,zA1,zB1,jJ,zF7];rfl
  ·cases h
 ·rename_i b o len cap kk k e hu
  obtain ⟨L,o',hL,rfl,hlc,ho⟩:=hx.jo;cases hi
  split at h
  ·rename_i n hlt hn
   cases h
   have hlt:k<len:=by rw [Nat.blt_eq] at hlt;exact hlt
   have ho':o'=⟨L.blk,L.sh+o,none⟩:=by
    rcases ho with ho|⟨h0,-⟩
    ·exact ho
    ·omega
   subst ho';refine ⟨_,?_,.pointer _ _ L hL⟩;have hcond:0≤(Int.ofNat k)∧(Int.ofNat k)<(len:Int):=by
    constructor
    ·exact Int.natCast_nonneg k
    ·exact Int.ofNat_lt.2 hlt
   simp only [Instr.indexAt,zA5,asIntOf,run_underlying hu,zA1,Instr.sureAddr,zB1];rw [if_pos hcond];simp only [zA5,zG hn,zA1,zB1,jJ,zF7];rfl
  ·cases h
 ·cases h
theorem Gx {f:Emb} {w:World} {t:TypeId} {x x' i i' v:Value} (h:yY P t x i=some v) (hx:VR f x x') (hi:VR f i i') :
 ∃ v',(Instr.index t x' i').run P w = .ok v' w∧VR f v v':=by
 unfold yY at h;split at h
 ·rename_i s kk k hu
  cases hx;cases hi
  split at h
  ·rename_i b hb
   cases h
   refine ⟨_,?_,.int _ _⟩;simp only [Instr.index,zA5,asIntOf,run_underlying hu,zA1,zB1];have h1:0≤Int.ofNat k:=Int.natCast_nonneg k;rw [if_pos h1];have hk:k<s.data.size:=by
    rw [zC1] at hb;exact (zB9.1 hb).1
   have h2:s[(Int.ofNat k).toNat]? = some b:=by
    have h3:(Int.ofNat k).toNat=k:=rfl;rw [h3];rw [zC1] at hb;have h4:s[k]? = some s[k]:=getElem?_pos s k hk;rw [h4];have h5:=(zB9.1 hb).2;rw [← h5];rfl
   rw [h2];rfl
  ·cases h
 ·rename_i cs kk k len e hu
  obtain ⟨cs',rfl,hcs⟩:=hx.Yh;cases hi
  have hcond:∀ hlt:Nat.blt k len=true,0≤(Int.ofNat k)∧(Int.ofNat k)<(len:Int):=fun hlt=>by
   rw [Nat.blt_eq] at hlt;exact ⟨Int.natCast_nonneg k,Int.ofNat_lt.2 hlt⟩
  have hk3:(Int.ofNat k).toNat=k:=rfl;split at h
  ·rename_i n hlt hagg hn
   split at h
   ·rename_i xs hxs
    cases h
    refine ⟨_,?_,Wy hcs hxs⟩;simp only [Instr.index,zA5,asIntOf,run_underlying hu,zA1,zB1];rw [if_pos (hcond hlt)];simp only [zA5,zG hn,zA1,part,Qr hagg,if_true,zB1,hk3]
   ·cases h
  ·rename_i n hlt hagg hn
   obtain ⟨v',q1,q2⟩:=hcs.get _ _ h;refine ⟨v',?_,q2⟩;rw [zC1] at q1;simp only [Instr.index,zA5,asIntOf,run_underlying hu,zA1,zB1];rw [if_pos (hcond hlt)];simp only [zA5,zG hn,zA1,part,Qr hagg,zD8,if_false,zB1,hk3,q1]
  ·cases h
 ·cases h
end
end Go.Proofs.Xx
namespace Go.Proofs.Xx
open Go
section
variable {P:Program}
theorem bytes_append (a b:ByteArray):(⟨(a.data.toList ++ b.data.toList).toArray⟩:ByteArray)=a ++ b:=by
 apply qai
 rw [ByteArray.data_append,Array.toList_append]
theorem qf6 {f:Emb} {op:BinOp} {a b:Int} {r:Bool} (h:cmpInt op a b=some r) (w:World):(Op.intCmp op a b).run P w = .ok (.bool r) w:=by
 cases op<;>simp only [cmpInt] at h<;>first|(cases h;done)|(cases h;rfl)
theorem wO {t:TypeId} {x y:Value} {r:Bool} {w:World} (h:∀ d,(Op.equalIn (d+1) t x y).run P w = .ok r w):(Op.equal t x y).run P w = .ok r w:=h 9999
theorem Je {t:TypeId} {x y:Value} {r:Bool} {w:World} (hd:∀ w:World,(binOp .eql t x y).run P w=((Op.equal t x y).run P w).andThen fun b w=>.ok (.bool b) w) (h:∀ d,(Op.equalIn (d+1) t x y).run P w = .ok r w):(binOp .eql t x y).run P w = .ok (.bool r) w:=by
 rw [hd,wO h];rfl
theorem Jd {t:TypeId} {x y:Value} {r:Bool} {w:World} (hd:∀ w:World,(binOp .neq t x y).run P w=((Op.equal t x y).run P w).andThen fun b w=>.ok (.bool !b) w) (h:∀ d,(Op.equalIn (d+1) t x y).run P w = .ok r w):(binOp .neq t x y).run P w = .ok (.bool !r) w:=by
 rw [hd,wO h];rfl
theorem Jm (t:TypeId) (x y:Value) (w:World) (h:binOp .eql t x y=(do pure (.bool (← Op.equal t x y)))):(binOp .eql t x y).run P w=((Op.equal t x y).run P w).andThen fun b w=>.ok (.bool b) w:=by
 rw [h,zA5];rfl
theorem Jl (t:TypeId) (x y:Value) (w:World) (h:binOp .neq t x y=(do pure (.bool (!(← Op.equal t x y))))):(binOp .neq t x y).run P w=((Op.equal t x y).run P w).andThen fun b w=>.ok (.bool !b) w:=by
 rw [h,zA5];rfl
theorem Pq {t:TypeId} (h:pairT P t=true):∃ fs f g,P.underlying t=some (.struct fs)∧fs.toList=[f,g]∧P.underlying f.type=some (.int .i64)∧P.underlying g.type=some (.int .i64)∧QF P f.type=some false∧QF P g.type=some false∧f.offset=0∧g.offset=1∧f.name ≠ "_" ∧ g.name ≠ "_" ∧ P.stoodInHeld t=false∧P.eqGuardType P.depth t=false:=by
 unfold pairT at h;split at h
 ·rename_i fs hu
  split at h
  ·rename_i f g hf
   split at h
   ·rename_i h1 h2 h3 h4
    simp only [zA8,decide_eq_true_eq,zG3] at h;obtain ⟨q1,q2,q3,q4,q5,q6⟩:=h;exact ⟨fs,f,g,hu,hf,h1,h2,h3,h4,zA6 q1,zA6 q2,q3,q4,q5,q6⟩
   ·cases h
  ·cases h
 ·cases h
theorem VRs.qgJ {f:Emb} {x y:Int} {c:Array Value} (h:VRs f [.int .i64 x,.int .i64 y] c.toList):c.toList=[.int .i64 x,.int .i64 y]∧c=#[.int .i64 x,.int .i64 y]:=by
 obtain ⟨l⟩:=c;simp only at h;have:l=[.int .i64 x,.int .i64 y]:=by
  cases h with
  | cons u v s s' h1 h2 =>
   cases h1
   cases h2 with
   | cons u v s s' h1 h2 =>
    cases h1
    cases h2
    rfl
 subst this;exact ⟨rfl,rfl⟩
theorem qaM {t:TypeId} {a0 a1 b0 b1:Int} {a b:Array Value} {w:World} (h:pairT P t=true) (ha:a=#[.int .i64 a0,.int .i64 a1]) (hb:b=#[.int .i64 b0,.int .i64 b1]):(binOp .eql t (.agg a) (.agg b)).run P w = .ok (.bool (a0 == b0 && a1 == b1)) w:=by
 subst ha hb;obtain ⟨fs,f,g,hu,hf,h1,h2,h3,h4,o1,o2,n1,n2,hs,-⟩:=Pq h;have hF:P.fieldsOf t=fs:=by unfold Program.fieldsOf;rw [hu]
 have hpart:∀ (e:TypeId) (cs:Array Value) (i:Nat) (v:Value),QF P e=some false→cs[i]? = some v→∀ w,(part e cs i).run P w = .ok v w:=fun e cs i v q1 q2 w=>by
  simp only [part,zA5,Qr q1,zA1,zD8,if_false,q2,zB1]
 have p0:=hpart f.type #[.int .i64 a0,.int .i64 a1] 0 (.int .i64 a0) h3 rfl;have p1:=hpart g.type #[.int .i64 a0,.int .i64 a1] 1 (.int .i64 a1) h4 rfl;have p2:=hpart f.type #[.int .i64 b0,.int .i64 b1] 0 (.int .i64 b0) h3 rfl;have p3:=hpart g.type #[.int .i64 b0,.int .i64 b1] 1 (.int .i64 b1) h4 rfl;have q0:∀ w,(Op.equalIn 9999 f.type (.int .i64 a0) (.int .i64 b0)).run P w = .ok (a0 == b0) w:=fun w=>run_equalIn_int w 9998 _ .i64 .i64 _ _ h1;have q1:∀ w,(Op.equalIn 9999 g.type (.int .i64 a1) (.int .i64 b1)).run P w = .ok (a1 == b1) w:=fun w=>run_equalIn_int w 9998 _ .i64 .i64 _ _ h2;rw [run_eql_struct,show (10000:Nat)=9999+1 from rfl,run_equalIn_agg w 9999 t _ _ (by rw [hF];exact hu) hs,hF,hf];unfold Op.eqFields;rw [if_pos n1];unfold Op.eqFields;rw [if_pos n2];unfold Op.eqFields;simp only [zA5,o1,o2,p0,p1,p2,p3,q0,q1,zA1,Sem.run_ite,zB1];cases (a0 == b0)<;>cases (a1 == b1)<;>rfl
theorem qc7 {f:Emb} {w:World} {d:Nat} {e:TypeId} {a b a' b':Value} {r:Bool} (h:Jj (P.underlying e) a b=some r) (ha:VR f a a') (hb:VR f b b'):(Op.equalIn (d+1) e a' b').run P w = .ok r w:=by
 unfold Jj at h;split at h
 ·rename_i hu;cases ha;cases hb;cases h;exact run_equalIn_bool w d e _ _ hu
 ·rename_i k0 k x k' y hu
  cases ha;cases hb
  split at h
  ·rename_i hk
   have:=of_decide_eq_true hk;subst this;cases h;exact run_equalIn_int w d e _ _ _ _ hu
  ·cases h
 ·rename_i x y hu
  cases ha;cases hb;cases h
  rw [run_equalIn_string w d e _ _ hu,jT,jT];rfl
 ·cases h
theorem WA {f:Emb} {d:Nat} {xs ys:Array Value}:∀ (fs:List Field) (i:Nat) (as bs as' bs':List Value) (r:Bool) (w:World),Wv P fs i=true→zo P fs as bs=some r→VRs f as as'→VRs f bs bs' →
 (∀ j,xs[i+j]? = as'[j]?)→(∀ j,ys[i+j]? = bs'[j]?)→(Op.eqFields (d+1) xs ys fs).run P w = .ok r w
 | [],i,as,bs,as',bs',r,w,_,h,_,_,_,_=>by
  unfold zo at h;split at h
  ·cases h;rfl
  ·rename_i q _ _;cases q
  ·cases h
 | g :: fs,i,as,bs,as',bs',r,w,hf,h,ha,hb,hx,hy=>by
  unfold Wv at hf;simp only [zA8,decide_eq_true_eq] at hf;obtain ⟨h1,h2,h3,h4⟩:=hf;have h1':QF P g.type=some false:=by
   split at h1
   ·assumption
   ·cases h1
  have h2':=zA6 h2;cases as with
  | nil=>unfold zo at h;cases bs<;>cases h
  | cons a as =>
   cases bs with
   | nil=>unfold zo at h;cases h
   | cons b bs =>
    unfold zo at h;split at h
    rotate_left
    ·cases h
    rename_i x y hx1 hy1
    cases h
    cases ha with
    | cons _ a' _ as' ha1 ha2 =>
    cases hb with
    | cons _ b' _ bs' hb1 hb2 =>
    have hpart:∀ (cs:Array Value) (v:Value),cs[i]? = some v→∀ w,(part g.type cs i).run P w = .ok v w:=fun cs v q2 w=>by
     simp only [part,zA5,Qr h1',zA1,zD8,if_false,q2,zB1]
    have px:=hpart xs a' (by have:=hx 0;simpa using this);have py:=hpart ys b' (by have:=hy 0;simpa using this);have ih:=WA (d:=d) (xs:=xs) (ys:=ys) fs (i+1) as bs as' bs' y w h4 hy1 ha2 hb2 (fun j=>by have:=hx (j+1);rw [zF7,Nat.add_comm 1 j];simpa using this) (fun j=>by have:=hy (j+1);rw [zF7,Nat.add_comm 1 j];simpa using this);unfold Op.eqFields;rw [if_pos h3];have e1:=qc7 (w:=w) (d:=d) hx1 ha1 hb1;simp only [zA5,h2',px,py,e1,zA1,Sem.run_ite,zB1];cases x
    ·simp
    ·simpa using ih
theorem yH {t:TypeId} (h:qbX P t=true):∃ fs,P.underlying t=some (.struct fs)∧Wv P fs.toList 0=true∧P.stoodInHeld t=false∧P.eqGuardType P.depth t=false:=by
 unfold qbX at h;split at h
 ·rename_i fs hu
  simp only [zA8,zG3] at h;exact ⟨fs,hu,h.1,h.2.1,h.2.2⟩
 ·cases h
theorem YL {f:Emb} {w:World} {t:TypeId} {a b a' b':Array Value} {r:Bool} (h:zN P t a.toList b.toList=some r) (ha:VRs f a.toList a'.toList) (hb:VRs f b.toList b'.toList):(Op.equalIn 10000 t (.agg a') (.agg b')).run P w = .ok r w:=by
 unfold zN at h;split at h
 ·rename_i fs hu ht
  obtain ⟨fs',hu',hf,hs,-⟩:=yH ht;rw [hu] at hu';cases hu'
  have hF:P.fieldsOf t=fs:=by unfold Program.fieldsOf;rw [hu]
  rw [show (10000:Nat)=9999+1 from rfl,run_equalIn_agg w 9999 t _ _ (by rw [hF];exact hu) hs,hF];exact WA (d:=9998) _ 0 _ _ _ _ r w hf h ha hb (fun j=>by simp) (fun j=>by simp)
 ·cases h
theorem Vk {t:TypeId} {a b:List Value} {r:Bool} (h:zN P t a b=some r):P.eqGuardType P.depth t=false:=by
 unfold zN at h;split at h
 ·rename_i fs hu ht
  obtain ⟨fs',hu',hf,hs,hg⟩:=yH ht;exact hg
 ·cases h
theorem qbx {f:Emb} {w:World} {op:BinOp} {t:TypeId} {x x' y y' v:Value} (h:QO P op t x y=some v) (hx:VR f x x') (hy:VR f y y') :
 ∃ v',(binOp op t x' y').run P w = .ok v' w∧VR f v v':=by
 unfold QO at h;split at h
 ·rename_i k a k' b
  cases hx;cases hy
  split at h
  ·split at h
   ·cases h
   ·rename_i hb
    cases h
    refine ⟨_,?_,.int _ _⟩;simp only [binOp,Op.shift];rw [if_neg (of_decide_eq_false hb)];rfl
  ·split at h
   ·cases h
   ·rename_i hb
    cases h
    refine ⟨_,?_,.int _ _⟩;simp only [binOp,Op.shift];rw [if_neg (of_decide_eq_false hb)];rfl
  ·rename_i n1 n2
   split at h
   ·cases h
   ·rename_i hk
    have hk:=of_decide_eq_true hk;subst hk;cases op
    case shl=>exact (n1 rfl).elim
    case shr=>exact (n2 rfl).elim
    case quo =>
     simp only at h;split at h
     ·cases h
     ·rename_i hb
      cases h
      refine ⟨_,?_,.int _ _⟩;simp only [binOp,ne_eq,not_true,if_false,Op.intDiv];rw [if_neg (of_decide_eq_false hb)];rfl
    case rem =>
     simp only at h;split at h
     ·cases h
     ·rename_i hb
      cases h
      refine ⟨_,?_,.int _ _⟩;simp only [binOp,ne_eq,not_true,if_false,Op.intDiv];rw [if_neg (of_decide_eq_false hb)];rfl
    all_goals first
     | (cases h;refine ⟨_,?_,.int _ _⟩;simp only [binOp,ne_eq,not_true,if_false];rfl)
     | (simp only [cmpInt] at h;cases h;refine ⟨_,?_,.bool _⟩;simp only [binOp,ne_eq,not_true,if_false];rfl)
 ·rename_i a b
  cases hx;cases hy
  split at h
  ·split at h
   ·rename_i hb
    cases h
    refine ⟨_,?_,.string _⟩;have hle:=zB6 hb;rw [bytes_append];simp only [binOp,Op.stringOp];rw [if_neg]
    ·rfl
    ·rw [QH,QH];have:IntKind.i64.max=9223372036854775807:=by decide
     rw [this];omega
   ·cases h
  all_goals first
   | (cases h;done)
   | (
    cases h
    refine ⟨_,?_,.bool _⟩;simp only [binOp,Op.stringOp,jT,zA];rfl)
 ·rename_i a b
  cases hx;cases hy
  split at h
  ·rename_i hu
   cases h
   refine ⟨_,?_,.bool _⟩;exact Je (fun w=>Jm _ _ _ w rfl) (fun d=>by simp only [Op.equalIn,zA5,run_underlying hu,zA1];rfl)
  ·rename_i hu
   cases h
   refine ⟨_,?_,.bool _⟩;exact Jd (fun w=>Jl _ _ _ w rfl) (fun d=>by simp only [Op.equalIn,zA5,run_underlying hu,zA1];rfl)
  ·cases h
 ·rename_i a l c
  cases hy
  split at h
  ·rename_i e hu
   cases h
   refine ⟨_,?_,.bool _⟩;cases hx with
   | nilSlice=>exact Je (fun w=>Jm _ _ _ w rfl) (fun d=>by simp only [Op.equalIn,zA5,run_underlying hu,zA1];rfl)
   | slice b o o' len cap L hb hl ho=>exact Je (fun w=>Jm _ _ _ w rfl) (fun d=>by simp only [Op.equalIn,zA5,run_underlying hu,zA1];rfl)
  ·rename_i e hu
   cases h
   refine ⟨_,?_,.bool _⟩;cases hx with
   | nilSlice=>exact Jd (fun w=>Jl _ _ _ w rfl) (fun d=>by simp only [Op.equalIn,zA5,run_underlying hu,zA1];rfl)
   | slice b o o' len cap L hb hl ho=>exact Jd (fun w=>Jl _ _ _ w rfl) (fun d=>by simp only [Op.equalIn,zA5,run_underlying hu,zA1];rfl)
  ·cases h
 ·rename_i a
  cases hy
  split at h
  ·rename_i e hu
   cases h
   refine ⟨_,?_,.bool _⟩;cases hx with
   | nilPointer=>exact Je (fun w=>Jm _ _ _ w rfl) (fun d=>by simp only [Op.equalIn,zA5,run_underlying hu,zA1];rfl)
   | pointer b o L hb=>exact Je (fun w=>Jm _ _ _ w rfl) (fun d=>by simp only [Op.equalIn,zA5,run_underlying hu,zA1];rfl)
  ·rename_i e hu
   cases h
   refine ⟨_,?_,.bool _⟩;cases hx with
   | nilPointer=>exact Jd (fun w=>Jl _ _ _ w rfl) (fun d=>by simp only [Op.equalIn,zA5,run_underlying hu,zA1];rfl)
   | pointer b o L hb=>exact Jd (fun w=>Jl _ _ _ w rfl) (fun d=>by simp only [Op.equalIn,zA5,run_underlying hu,zA1];rfl)
  ·cases h
 ·rename_i b o b' o'
  obtain ⟨L,hL,rfl⟩:=hx.zO;obtain ⟨L',hL',rfl⟩:=hy.zO;have hsame:∀ (bb oo oo':Nat),(sameAddr ⟨bb,oo,none⟩ ⟨bb,oo',none⟩).run P w = .ok (Nat.beq oo oo') w:=fun bb oo oo'=>by
   simp only [sameAddr,beq_self_eq_true,↓reduceIte];have e:((⟨bb,oo,none⟩:Addr) == ⟨bb,oo',none⟩)=Nat.beq oo oo':=by
    rw [Bool.eq_iff_iff,beq_iff_eq,Nat.beq_eq];constructor
    ·intro h;cases h;rfl
    ·intro h;rw [h]
   rw [e];rfl
  have hadd:Nat.beq (L.sh+o) (L.sh+o')=Nat.beq o o':=by
   rw [Bool.eq_iff_iff,Nat.beq_eq,Nat.beq_eq];omega
  split at h
  ·rename_i e hu
   split at h
   ·rename_i n h1 h2
    cases h
    have:=zA6 h1;subst this;rw [hL] at hL';cases hL'
    refine ⟨_,?_,.bool _⟩;refine Je (fun w=>Jm _ _ _ w rfl) (fun d=>?_);simp only [Op.equalIn,zA5,run_underlying hu,zA1,zG h2];simp [hsame,hadd]
   ·cases h
  ·rename_i e hu
   split at h
   ·rename_i n h1 h2
    cases h
    have:=zA6 h1;subst this;rw [hL] at hL';cases hL'
    refine ⟨_,?_,.bool _⟩;refine Jd (fun w=>Jl _ _ _ w rfl) (fun d=>?_);simp only [Op.equalIn,zA5,run_underlying hu,zA1,zG h2];simp [hsame,hadd]
   ·cases h
  ·cases h
 ·rename_i a b
  obtain ⟨a',rfl,ha⟩:=hx.Yh;obtain ⟨b',rfl,hb⟩:=hy.Yh;split at h
  ·rename_i a0 a1 b0 b1 ea eb
   split at h
   ·rename_i hp
    cases h
    rw [ea] at ha;rw [eb] at hb;obtain ⟨ea',ka'⟩:=VRs.qgJ ha;obtain ⟨eb',kb'⟩:=VRs.qgJ hb;exact ⟨_,qaM hp ka' kb',.bool _⟩
   ·cases h
  ·split at h
   ·rename_i hq
    cases h
    exact ⟨_,by rw [run_eql_struct,YL hq ha hb];rfl,.bool _⟩
   ·cases h
  ·split at h
   ·rename_i hq
    cases h
    exact ⟨_,by rw [run_neq_struct,YL hq ha hb];rfl,.bool _⟩
   ·cases h
  ·cases h
 ·rename_i a
  cases hy
  split at h
  ·rename_i e1 e2 hu
   cases h
   refine ⟨_,?_,.bool _⟩;cases hx with
   | nilMap=>exact Je (fun w=>Jm _ _ _ w rfl) (fun d=>by simp only [Op.equalIn,zA5,run_underlying hu,zA1];rfl)
   | map b L hb=>exact Je (fun w=>Jm _ _ _ w rfl) (fun d=>by simp only [Op.equalIn,zA5,run_underlying hu,zA1];rfl)
  ·rename_i e1 e2 hu
   cases h
   refine ⟨_,?_,.bool _⟩;cases hx with
   | nilMap=>exact Jd (fun w=>Jl _ _ _ w rfl) (fun d=>by simp only [Op.equalIn,zA5,run_underlying hu,zA1];rfl)
   | map b L hb=>exact Jd (fun w=>Jl _ _ _ w rfl) (fun d=>by simp only [Op.equalIn,zA5,run_underlying hu,zA1];rfl)
  ·cases h
 ·cases h
theorem qdj {f:Emb} {w:World} {op:UnOp} {x x' v:Value} (h:aUn op x=some v) (hx:VR f x x'):∃ v',(Op.unary op x').run P w = .ok v' w∧VR f v v':=by
 unfold aUn at h;split at h
 ·cases hx;cases h;exact ⟨_,rfl,.bool _⟩
 ·cases hx;cases h;exact ⟨_,rfl,.int _ _⟩
 ·cases h
theorem y9 {f:Emb} {w:World} {s d:TypeId} {x x' v:Value} (h:jV P s d x=some v) (hx:VR f x x'):∃ v',(convert s d x').run P w = .ok v' w∧VR f v v':=by
 unfold jV at h;split at h
 ·rename_i k1 k2 k3 n h1 h2
  cases hx;cases h
  refine ⟨_,?_,.int _ _⟩;simp [convert,run_underlying h1,run_underlying h2,Conv.intToInt]
 ·rename_i n h1 h2
  cases hx;cases h
  refine ⟨_,?_,.string _⟩;simp [convert,run_underlying h1,run_underlying h2]
 ·rename_i k1 k2 n h1 h2
  cases hx;cases h
  refine ⟨_,?_,.string _⟩;simp [convert,run_underlying h1,run_underlying h2,Conv.intToString]
 ·cases h
theorem byteOf?_eq {v:Value} {b:UInt8} (h:byteOf? v=some b):∃ n:Nat,v = .int .u8 n∧b=UInt8.ofNat n:=by
 unfold byteOf? at h;split at h
 ·cases h;exact ⟨_,rfl,rfl⟩
 ·cases h
theorem bytesOf?_VRs {f:Emb}:∀ {xs xs':List Value} {s:List UInt8},bytesOf? xs=some s→VRs f xs xs'→xs'=xs∧s.length=xs.length
 | [],_,s,h,.nil=>by cases h;exact ⟨rfl,rfl⟩
 | v :: r,_,s,h,.cons _ v' _ r' hv hr=>by
  simp only [bytesOf?] at h;split at h
  ·rename_i b t hb ht
   cases h
   obtain ⟨n,rfl,rfl⟩:=byteOf?_eq hb;cases hv
   obtain ⟨h1,h2⟩:=bytesOf?_VRs ht hr;exact ⟨by rw [h1],by simp [h2]⟩
  ·cases h
theorem qbs {f:Emb} {w:World} {t ty:TypeId} {ts:List TypeId} {x x' v:Value} (h:qbt P t x=some v) (hx:VR f x x') (r:List Value) :
 ∃ v',(Builtin.len_ (t :: ts).toArray ty (x' :: r).toArray).run P w = .ok v' w∧VR f v v':=by
 have e1:((t :: ts).toArray)[0]? = some t:=by simp
 have e2:((x' :: r).toArray)[0]? = some x':=by simp
 unfold qbt at h;split at h
 ·rename_i s hu
  cases hx;cases h
  refine ⟨_,?_,.int _ _⟩;simp only [Builtin.len_,e1,e2,zA5,run_underlying hu,zA1,zB1,goInt,QH]
 ·rename_i a n c e hu
  cases h
  cases hx with
  | nilSlice =>
   refine ⟨_,?_,.int _ _⟩;simp only [Builtin.len_,e1,e2,zA5,run_underlying hu,zA1,zB1,goInt]
  | slice b o o' len cap L hb hl ho =>
   refine ⟨_,?_,.int _ _⟩;simp only [Builtin.len_,e1,e2,zA5,run_underlying hu,zA1,zB1,goInt]
 ·rename_i n e hu
  cases h
  refine ⟨_,?_,.int _ _⟩;simp only [Builtin.len_,e1,e2,zA5,run_underlying hu,zA1,zB1,goInt]
 ·rename_i a hu
  split at h
  ·rename_i n e hu2
   cases h
   refine ⟨_,?_,.int _ _⟩;simp only [Builtin.len_,e1,e2,zA5,run_underlying hu,run_underlying hu2,zA1,zB1,goInt]
  ·cases h
 ·cases h
theorem qbv {f:Emb} {w:World} {t ty:TypeId} {ts:List TypeId} {x x' v:Value} (h:qhO P t x=some v) (hx:VR f x x') (r:List Value) :
 ∃ v',(Builtin.cap_ (t :: ts).toArray ty (x' :: r).toArray).run P w = .ok v' w∧VR f v v':=by
 have e1:((t :: ts).toArray)[0]? = some t:=by simp
 have e2:((x' :: r).toArray)[0]? = some x':=by simp
 unfold qhO at h;split at h
 ·rename_i e hu
  cases hx;cases h
  refine ⟨_,?_,.int _ _⟩;simp only [Builtin.cap_,e1,e2,zA5,run_underlying hu,zA1,zB1,goInt];rfl
 ·cases h
theorem KJ {f:Emb} {w:World} {x x' y y' v:Value} (h:lesser x y=some v) (hx:VR f x x') (hy:VR f y y'):∃ v',(Builtin.min2 x' y').run P w = .ok v' w∧VR f v v':=by
 unfold lesser at h;split at h
 ·cases hx;cases hy;cases h
  exact ⟨_,rfl,.int _ _⟩
 ·cases hx;cases hy;cases h
  refine ⟨_,?_,.string _⟩;simp only [Builtin.min2,Op.stringOp,jT,zA,zA5,zB1,zA1,asBool];rfl
 ·cases h
theorem vV {f:Emb} {w:World} {x x' y y' v:Value} (h:greater x y=some v) (hx:VR f x x') (hy:VR f y y'):∃ v',(Builtin.max2 x' y').run P w = .ok v' w∧VR f v v':=by
 unfold greater at h;split at h
 ·cases hx;cases hy;cases h
  exact ⟨_,rfl,.int _ _⟩
 ·cases hx;cases hy;cases h
  refine ⟨_,?_,.string _⟩;simp only [Builtin.max2,Op.stringOp,jT,zA,zA5,zB1,zA1,asBool]
 ·cases h
theorem XN {f:Emb} {w:World} {g:Value→Value→Option Value} {g':Value→Value→Sem Value} (hg:∀ x x' y y' v,g x y=some v→VR f x x'→VR f y y'→∃ v',(g' x' y').run P w = .ok v' w∧VR f v v') :
 ∀ {r r':List Value} {x x' v:Value},Vj g x r=some v→VR f x x'→VRs f r r'→∃ v',(r'.foldlM g' x').run P w = .ok v' w∧VR f v v'
 | [],_,x,x',v,h,hx,.nil=>by cases h;exact ⟨x',by simp,hx⟩
 | y :: r,_,x,x',v,h,hx,.cons _ y' _ r' hy hr=>by
  simp only [Vj] at h;split at h
  ·rename_i z hz
   obtain ⟨z',q1,q2⟩:=hg _ _ _ _ _ hz hx hy;obtain ⟨v',p1,p2⟩:=XN hg h q2 hr;exact ⟨v',by simp only [List.foldlM_cons,zA5,q1,zA1,p1],p2⟩
  ·cases h
end
end Go.Proofs.Xx
namespace Go.Proofs.Xx
open Go
section
variable {P:Program}
theorem jX {f:Emb} {x x':Option Value} {d n:Nat} (h:zF x d=some n) (hx:∀ v,x=some v→∃ v',x'=some v'∧VR f v v') (hn:x=none→x'=none) :
 (x=none∧x'=none∧n=d)∨∃ k,x'=some (.int k (Int.ofNat n)):=by
 unfold zF at h;split at h
 ·cases h;exact .inl ⟨rfl,hn rfl,rfl⟩
 ·rename_i k m
  cases h
  obtain ⟨v',q1,q2⟩:=hx _ rfl;cases q2
  exact .inr ⟨_,q1⟩
 ·cases h
theorem run_sliceBound {n y:Nat} {k:IntKind} (h:n≤y) (code:BoundsCode) (w:World):(Instr.sliceBound (.int k (Int.ofNat n)) y code).run P w = .ok n w:=by
 have h1:0≤Int.ofNat n∧Int.ofNat n≤(y:Int):=⟨Int.natCast_nonneg n,Int.ofNat_le.2 h⟩
 simp only [Instr.sliceBound,zA5,asIntOf,zB1,zA1];rw [if_pos h1];rfl
theorem QA {f:Emb} {lo lo' hi hi':Option Value} {len cap cap' l r:Nat} (b:Bool) (hlo:zF lo 0=some l) (hhi:zF hi len=some r) (hlr:l≤r) (hr:r≤cap')
 (h1:∀ v,lo=some v→∃ v',lo'=some v'∧VR f v v') (h1n:lo=none→lo'=none) (h2:∀ v,hi=some v→∃ v',hi'=some v'∧VR f v v') (h2n:hi=none→hi'=none) (w:World) :
 (Instr.sliceBounds b len cap' lo' hi' none).run P w = .ok (l,r,cap') w:=by
 rcases jX hhi h2 h2n with ⟨-,rfl,rfl⟩|⟨k,rfl⟩
 ·rcases jX hlo h1 h1n with ⟨-,rfl,rfl⟩|⟨k',rfl⟩
  ·simp only [Instr.sliceBounds,zA5,zB1,zA1]
  ·simp only [Instr.sliceBounds,zA5,zB1,zA1,run_sliceBound hlr]
 ·rcases jX hlo h1 h1n with ⟨-,rfl,rfl⟩|⟨k',rfl⟩
  ·simp only [Instr.sliceBounds,zA5,zB1,zA1,run_sliceBound hr]
  ·simp only [Instr.sliceBounds,zA5,zB1,zA1,run_sliceBound hlr,run_sliceBound hr]
theorem vX (s:ByteArray) (l r:Nat):(⟨((s.data.toList.drop l).take (r - l)).toArray⟩:ByteArray)=s.extract l r:=by
 apply qai
 rw [ByteArray.data_extract,Array.toList_extract,List.extract_eq_take_drop]
def vG (f:Emb) (x x':Option Value):Prop:=(∀ v,x=some v→∃ v',x'=some v'∧VR f v v')∧(x=none→x'=none)
theorem QL {f:Emb} {sz:Nat} {t:Tr Value} {tm:Array Value} (T:TR f sz t tm) {o:Option Operand} {x:Option Value} (h:jM t o=some x):vG f x (o.map (Zn tm)):=by
 cases o with
 | none=>cases h;exact ⟨fun v hv=>(by cases hv),fun _=>rfl⟩
 | some o =>
  simp only [jM] at h;split at h
  ·rename_i v hv
   cases h
   exact ⟨fun u hu=>(by cases hu;exact ⟨_,rfl,qF T hv⟩),fun q=>(by cases q)⟩
  ·cases h
theorem Gt [Glob] {B:Bs} {f:Emb} {h:AH} {w:World} (r:Rel B f h w) {t:TypeId} {x x' v:Value} {lo lo' hi hi' mx mx':Option Value} (hs:jd P t x lo hi mx h=some v)
 (hx:VR f x x') (hlo:vG f lo lo') (hhi:vG f hi hi') (hmx:vG f mx mx'):∃ v',(Instr.sliceAt t x' lo' hi' mx').run P w = .ok v' w∧VR f v v':=by
 unfold jd at hs;split at hs
 ·rename_i s hu
  cases hx
  have hm:=hmx.2 rfl;subst hm;split at hs
  ·rename_i l rr hl hr
   split at hs
   ·rename_i hc
    cases hs
    simp only [zA8] at hc;have c1:=zB6 hc.1;have c2:=zB6 hc.2;refine ⟨_,?_,.string _⟩;rw [vX];have hsz:=QH s;rw [← hsz] at hr c2;have:=QA (P:=P) (cap:=s.size) (cap':=s.size) false hl hr c1 c2 hlo.1 hlo.2 hhi.1 hhi.2 w;simp only [Instr.sliceAt,zA5,run_underlying hu,zA1,Instr.slice,Option.isSome_none,zD8,if_false,zB1,this]
   ·cases hs
  ·cases hs
 ·rename_i e hu
  cases hx
  have hm:=hmx.2 rfl;subst hm;split at hs
  ·rename_i n hl hr hn
   cases hs
   refine ⟨_,?_,.nilSlice⟩;have:=QA (P:=P) (cap:=0) (cap':=0) true hl hr (zA3 _) (zA3 _) hlo.1 hlo.2 hhi.1 hhi.2 w;simp only [Instr.sliceAt,zA5,run_underlying hu,zA1,Instr.slice,this,zG hn];simp
  ·cases hs
 ·rename_i e b o len cap hu
  obtain ⟨L,o',hL,rfl,hlc,ho⟩:=hx.jo;have hm:=hmx.2 rfl;subst hm;split at hs
  ·rename_i c eb slk ro n hg hn
   split at hs
   ·rename_i l rr hl hr
    split at hs
    ·rename_i hc
     simp only [zA8] at hc;have c1:=zB6 hc.1;have c2:=zB6 hc.2;have hrun:=QA (P:=P) (cap:=cap) (cap':=cap+L.slack) true hl hr c1 (by omega) hlo.1 hlo.2 hhi.1 hhi.2 w;have hO:=r.obj b L _ hL hg;obtain ⟨cc,fr,-,-,-,h4,-,-⟩:=hO;split at hs
     ·rename_i hq
      cases hs
      simp only [zA8,Option.isNone_iff_eq_none] at hq;have q2:=zA6 hq.2;obtain ⟨s0,-⟩:=h4 hq.1;refine ⟨.slice (some o') (rr - l) (cap - l+L.slack),?_,.slice b o o' _ _ L hL (by omega) ?_⟩
      ·simp only [Instr.sliceAt,zA5,run_underlying hu,zA1,Instr.slice,hrun,zG hn,zB1];rw [if_pos (by omega)];congr 2;omega
      ·exact ho.imp id fun ⟨a1,a2⟩=>⟨by omega,a2⟩
     ·rename_i hq
      cases hs
      by_cases hml:cap+L.slack=l
      ·refine ⟨.slice (some o') (rr - l) (cap - l+L.slack),?_,.slice b (o+l*n) o' _ _ L hL (by omega) (.inr ⟨by omega,by omega⟩)⟩;simp only [Instr.sliceAt,zA5,run_underlying hu,zA1,Instr.slice,hrun,zG hn,zB1];rw [if_pos hml];congr 2;omega
      ·have ho':o'=⟨L.blk,L.sh+o,none⟩:=by
        rcases ho with ho|⟨a1,a2⟩
        ·exact ho
        ·exfalso;omega
       subst ho';refine ⟨.slice (some ⟨L.blk,L.sh+o+l*n,none⟩) (rr - l) (cap - l+L.slack),?_,.slice b (o+l*n) _ _ _ L hL (by omega) (.inl (by rw [zF7]))⟩;simp only [Instr.sliceAt,zA5,run_underlying hu,zA1,Instr.slice,hrun,zG hn,zB1];rw [if_neg hml];simp only [Option.map_some,jJ];congr 2;omega
    ·cases hs
   ·cases hs
  ·cases hs
 ·rename_i m e b o hu
  obtain ⟨L,hL,rfl⟩:=hx.zO;have hm:=hmx.2 rfl;subst hm;split at hs
  ·rename_i c eb ro n hg hn
   split at hs
   ·rename_i l rr hl hr
    split at hs
    ·rename_i hc
     simp only [zA8] at hc;have c1:=zB6 hc.1;have c2:=zB6 hc.2;have hrun:=QA (P:=P) (cap:=m) (cap':=m) false hl hr c1 c2 hlo.1 hlo.2 hhi.1 hhi.2 w;have hO:=r.obj b L _ hL hg;obtain ⟨cc,fr,-,-,-,h4,-,-⟩:=hO;obtain ⟨s0,-⟩:=h4 rfl;split at hs
     ·rename_i hq
      cases hs
      have q2:=zA6 hq;refine ⟨.slice (some ⟨L.blk,L.sh+o,none⟩) (rr - l) (m - l+L.slack),?_,.slice b o _ _ _ L hL (by omega) (.inl rfl)⟩;simp only [Instr.sliceAt,zA5,run_underlying hu,zA1,Instr.sureAddr,zB1,hrun,zG hn];rw [if_pos q2.symm];congr 2;omega
     ·rename_i hq
      cases hs
      have q2:¬ m=l:=fun q=>by subst q;simp at hq
      refine ⟨.slice (some ⟨L.blk,L.sh+(o+l*n),none⟩) (rr - l) (m - l+L.slack),?_,.slice b _ _ _ _ L hL (by omega) (.inl rfl)⟩;simp only [Instr.sliceAt,zA5,run_underlying hu,zA1,Instr.sureAddr,zB1,hrun,zG hn];rw [if_neg q2];simp only [jJ,zF7];congr 2;omega
    ·cases hs
   ·cases hs
  ·cases hs
 ·cases hs
theorem VE {f:Emb} {lo lo':Option Value} {hi mx:Value} {len cap l r m:Nat} {k1 k2:IntKind} (b:Bool) (hlo:zF lo 0=some l) (hhi:hi = .int k1 (Int.ofNat r)) (hmx:mx = .int k2 (Int.ofNat m)) (hlr:l≤r) (hrm:r≤m) (hm:m≤cap)
 (h1:∀ v,lo=some v→∃ v',lo'=some v'∧VR f v v') (h1n:lo=none→lo'=none) (w:World) :
 (Instr.sliceBounds b len cap lo' (some hi) (some mx)).run P w = .ok (l,r,m) w:=by
 subst hhi hmx;rcases jX hlo h1 h1n with ⟨-,rfl,rfl⟩|⟨k',rfl⟩
 ·simp only [Instr.sliceBounds,zA5,zB1,zA1,run_sliceBound hm,run_sliceBound hrm]
 ·simp only [Instr.sliceBounds,zA5,zB1,zA1,run_sliceBound hm,run_sliceBound hrm,run_sliceBound hlr]
theorem vY [Glob] {B:Bs} {f:Emb} {h h':AH} {w:World} (r:Rel B f h w) {t:TypeId} {x x' v:Value} {lo lo' hi hi' mx mx':Option Value} (hs:xn P t x lo hi mx h=some (v,h'))
 (hx:VR f x x') (hlo:vG f lo lo') (hhi:vG f hi hi') (hmx:vG f mx mx'):∃ f' v' w',(Instr.sliceAt t x' lo' hi' mx').run P w = .ok v' w'∧Rel B f' h' w'∧Turn f h w f' h' w'∧VR f' v v':=by
 unfold xn at hs;split at hs
 rotate_left
 ·cases hs
 rename_i m hv
 split at hs
 rotate_left
 ·cases hs
 rename_i e b o len cap hu
 split at hs
 rotate_left
 ·cases hs
 rename_i c eb slk ro n hg hn
 split at hs
 rotate_left
 ·cases hs
 rename_i l rr mm hl hr hmm
 split at hs
 rotate_left
 ·cases hs
 rename_i hc
 cases hs
 simp only [zA8] at hc;have c1:=zB6 hc.1;have c2:=zB6 hc.2.1;have c3:=zB6 hc.2.2;obtain ⟨L,o',hL,rfl,hlc,ho⟩:=hx.jo;rcases jX hr hhi.1 hhi.2 with ⟨q,-⟩|⟨k1,rfl⟩
 ·cases q
 rcases jX hmm hmx.1 hmx.2 with ⟨q,-⟩|⟨k2,rfl⟩
 ·cases q
 have hrun:=VE (P:=P) (len:=len) (cap:=cap+L.slack) true hl rfl rfl c1 c2 (by omega:mm≤cap+L.slack) hlo.1 hlo.2 (k1:=k1) (k2:=k2) w;have hle:=r.QW ⟨L.blk,L.sh+o+l*n,0⟩;have hrng:=r.rng b L hL;have hbl:=r.dom b L hL;have R:Rel B (f.put h.next ⟨L.blk,L.sh+o+l*n,0⟩) { tr:=h.tr,next:=h.next+1,low:=lowest h.low b } w∧Turn f h w (f.put h.next ⟨L.blk,L.sh+o+l*n,0⟩) { tr:=h.tr,next:=h.next+1,low:=lowest h.low b } w:=by
  have hnone:h.get h.next=none:=r.wf _ (zA3 _)
  have hget:∀ k p,(AH.get { tr:=h.tr,next:=h.next+1,low:=lowest h.low b } k)=some p→h.get k=some p∧k≠h.next:=fun k p q=>by
   have q:h.get k=some p:=q;refine ⟨q,fun e=>?_⟩;subst e;rw [hnone] at q;cases q
  refine ⟨⟨fun k M e=>?_,fun k hk=>?_,fun k M e=>?_,fun k M p e1 e2=>?_,fun k M p k' M' p' e1 e2 e3 e4 e5 e6 e7=>?_,fun k M p e1 e2 e3=>?_,r.base,r.keep,r.glob⟩,?_⟩
  ·by_cases hk:k=h.next
   ·subst hk;exact zG0 _
   ·rw [Emb.zh _ _ hk] at e;exact Nat.lt_succ_of_lt (r.dom k M e)
  ·have hk':h.next+1≤k:=hk
   exact r.wf k (by omega)
  ·by_cases hk:k=h.next
   ·subst hk;rw [Emb.qP] at e;cases e;exact hrng
   ·rw [Emb.zh _ _ hk] at e;exact r.rng k M e
  ·obtain ⟨g1,g2⟩:=hget _ _ e2;rw [Emb.zh _ _ g2] at e1;exact (r.obj k M p e1 g1).mono hle
  ·obtain ⟨g1,g2⟩:=hget _ _ e2;obtain ⟨g3,g4⟩:=hget _ _ e4;rw [Emb.zh _ _ g2] at e1;rw [Emb.zh _ _ g4] at e3;exact r.inj k M p k' M' p' e1 g1 e3 g3 e5 e6 e7
  ·obtain ⟨g1,g2⟩:=hget _ _ e2;rw [Emb.zh _ _ g2] at e1;exact r.own k M p e1 g1 e3
  ·refine ⟨hle,Nat.le_succ _,ZU _ _,fun k M e hk=>?_,fun k M e hn=>?_,zA3 _,fun _ _ _=>rfl,fun _ _ _=>rfl,rfl,rfl,rfl⟩
   ·rw [Emb.zh _ _ (by omega)] at e;exact e
   ·by_cases hk:k=h.next
    ·subst hk;rw [Emb.qP] at e;cases e
     exact .inr ⟨b,L,hL,rfl,jq _ _⟩
    ·rw [Emb.zh _ _ hk,hn] at e;cases e
 by_cases hml:mm=l
 ·refine ⟨_,.slice (some o') (rr - l) (mm - l),w,?_,R.1,R.2,?_⟩
  ·simp only [Instr.sliceAt,zA5,run_underlying hu,zA1,Instr.slice,hrun,zG hn,zB1];rw [if_pos hml]
  ·exact VR.slice (f:=f.put h.next _) h.next 0 o' _ _ ⟨L.blk,L.sh+o+l*n,0⟩ (Emb.qP _ _ _) (by omega) (.inr ⟨by omega,rfl⟩)
 ·have ho':o'=⟨L.blk,L.sh+o,none⟩:=by
   rcases ho with ho|⟨a1,a2⟩
   ·exact ho
   ·exfalso;omega
  subst ho';refine ⟨_,.slice (some ⟨L.blk,L.sh+o+l*n,none⟩) (rr - l) (mm - l),w,?_,R.1,R.2,?_⟩
  ·simp only [Instr.sliceAt,zA5,run_underlying hu,zA1,Instr.slice,hrun,zG hn,zB1];rw [if_neg hml];simp only [Option.map_some,jJ]
  ·exact VR.slice (f:=f.put h.next _) h.next 0 _ _ _ ⟨L.blk,L.sh+o+l*n,0⟩ (Emb.qP _ _ _) (by omega) (.inl rfl)
end
end Go.Proofs.Xx
namespace Go.Proofs.Xx
open Go
section
variable {P:Program}
theorem kw (newLen:Nat):∀ (rounds c:Nat),c≤newLen+(newLen+768) / 4→Builtin.growBy newLen rounds c≤newLen+(newLen+768) / 4
 | 0,c,h=>h
 | rounds+1,c,h=>by
  unfold Builtin.growBy;split
  ·exact h
  ·exact kw newLen rounds _ (by omega)
theorem nextslicecap_le {need cap:Nat} (h:cap<need):Builtin.nextslicecap need cap≤2*need:=by
 unfold Builtin.nextslicecap;split
 ·omega
 ·split
  ·omega
  ·have:=kw need 4 cap (by omega);omega
theorem wI {w w2:World} (h:w2.heap=w.heap) (a:Addr):w2.cell? a=w.cell? a:=by unfold World.cell?;rw [h]
theorem Yw [Glob] {B:Bs} {f:Emb} {h:AH} {w:World} (r:Rel B f h w) {size n:Nat} {x x':Value} {new:List Value} (hs:Jn size x h=some (n,new)) (hx:VR f x x') :
 ∃ new',VRs f new new'∧(∀ w2:World,(Builtin.lenOf x').run P w2 = .ok n w2)∧∀ w2:World,w2.heap=w.heap→(Builtin.firstCells size n x').run P w2 = .ok new'.toArray w2:=by
 unfold Jn at hs;split at hs
 ·cases hs;cases hx
  exact ⟨[],.nil,fun _=>rfl,fun _ _=>rfl⟩
 ·rename_i b o m cap
  obtain ⟨L,o',hL,rfl,hlc,ho⟩:=hx.jo;split at hs
  ·rename_i c e sl ro hg
   split at hs
   ·rename_i xs hxs
    cases hs
    obtain ⟨xs',q1,q2,q3⟩:=(r.obj b L _ hL hg).seg hxs;refine ⟨xs',q1,fun _=>rfl,fun w2 hw=>?_⟩;by_cases hn:n=0
    ·subst hn;have:xs'=[]:=zE8.1 (by omega);subst this;simp [Builtin.firstCells,loadCells,loadCellsFrom]
    ·have ho':o'=⟨L.blk,L.sh+o,none⟩:=by
      rcases ho with ho|⟨h0,-⟩
      ·exact ho
      ·omega
     subst ho';simp only [Builtin.firstCells];exact Qa q2 fun j v e=>by rw [wI hw];exact q3 j v e
   ·cases hs
  ·cases hs
 ·rename_i s
  cases hs;cases hx
  refine ⟨_,VRs.plain f _ (zC8.2 fun v hv=>by obtain ⟨b,-,rfl⟩:=zF1.1 hv;rfl),fun _=>?_,fun w2 _=>?_⟩
  ·simp only [Builtin.lenOf,zB1,QH]
  ·simp only [Builtin.firstCells,zB1];congr 1
   apply Array.ext'
   rw [← QH,Array.toList_map,ByteArray.data_extract,Array.toList_extract,List.extract_eq_take_drop,zF6];congr 1
   rw [List.drop_zero,Nat.sub_zero,QH,zF8 (zA3 _)]
 ·cases hs
theorem run_append_room {ts tx:TypeId} {e:TypeId} {d:TypeDesc} {ty:TypeId} {size n len cap:Nat} {base:Option Addr} {x':Value} {new':List Value} {w:World}
 (hu:P.underlying ts=some (.slice e)) (hd:∀ k,d≠.int k) (hx:P.underlying tx=some d) (hsz:(sizeOf e).run P w = .ok size w)
 (hl:(Builtin.lenOf x').run P w = .ok n w) (hf:(Builtin.firstCells size n x').run P w = .ok new'.toArray w) (hc:len+n≤cap) :
 (Builtin.append_ #[ts,tx] ty #[.slice base len cap,x']).run P w =
  (((match base with|some a=>storeCells (a.add (len*size)) new'|none=>pure ()):Sem Unit).run P w).andThen fun _ w'=>.ok (.slice base (len+n) cap) w':=by
 have e1:(#[ts,tx]:Array TypeId)[0]? = some ts:=rfl;have e2:(#[ts,tx]:Array TypeId)[1]? = some tx:=rfl;have e3:(#[Value.slice base len cap,x']:Array Value)[0]? = some (.slice base len cap):=rfl;have e4:(#[Value.slice base len cap,x']:Array Value)[1]? = some x':=rfl;cases d
 case int k=>exact absurd rfl (hd k)
 all_goals
  simp only [Builtin.append_,e1,e2,e3,e4,zA5,run_underlying hu,run_underlying hx,zA1,zB1,hsz,zD8,if_false,Bool.not_false,if_true,hl,hf];rw [if_pos hc];simp only [zA5,hf,zA1];cases base with
  | none=>rfl
  | some a=>simp only [zA5];rfl
theorem run_append_grow {ts tx:TypeId} {e:TypeId} {d:TypeDesc} {ty:TypeId} {z:List Value} {by_ n len cap:Nat} {base:Option Addr} {x':Value} {old' new':List Value} {w:World}
 (hu:P.underlying ts=some (.slice e)) (hd:∀ k,d≠.int k) (hx:P.underlying tx=some d) (hz:zg P e=some z) (hb:QI P e=some (by_+1))
 (hl:∀ w2:World,(Builtin.lenOf x').run P w2 = .ok n w2) (hf:∀ w2:World,w2.heap=w.heap→(Builtin.firstCells z.length n x').run P w2 = .ok new'.toArray w2)
 (ho:∀ w2:World,w2.heap=w.heap→(Builtin.firstCells z.length len (.slice base len cap)).run P w2 = .ok old'.toArray w2)
 (hc:cap<len+n) (hsm:(len+n)*(by_+1)≤140737488355328) :
 ∃ newCap w',len+n≤newCap∧(Builtin.append_ #[ts,tx] ty #[.slice base len cap,x']).run P w = .ok (.slice (some ⟨w.heap.size,0,none⟩) (len+n) newCap) w' ∧
  Pushed w w' (.cells (old' ++ (new' ++ zn z (newCap - (len+n)))).toArray e):=by
 obtain ⟨i,zv,hi,hzv,hzl,hsz,hz0,hpl⟩:=jy hz;have e1:(#[ts,tx]:Array TypeId)[0]? = some ts:=rfl;have e2:(#[ts,tx]:Array TypeId)[1]? = some tx:=rfl;have e3:(#[Value.slice base len cap,x']:Array Value)[0]? = some (.slice base len cap):=rfl;have e4:(#[Value.slice base len cap,x']:Array Value)[1]? = some x':=rfl;have hsr:∀ w:World,(sizeOf e).run P w = .ok z.length w:=fun w=>by simp [sizeOf,typeInfo,hi,hsz]
 have hzrun:∀ w:World,(zeroValue e).run P w = .ok zv w:=fun w=>by simp [zeroValue,typeInfo,hi,hzv]
 have hti:∀ w:World,(typeInfo e).run P w = .ok i w:=fun w=>by simp [typeInfo,hi]
 have hby:i.bytes=by_+1:=by unfold QI at hb;rw [hi] at hb;simpa using hb
 have hns:¬ (Builtin.nextslicecap (len+n) cap*i.bytes > 2 ^ 48):=by
  have h1:=nextslicecap_le hc;have h2:Builtin.nextslicecap (len+n) cap*(by_+1)≤(2*(len+n))*(by_+1):=zD3 _ h1;have h3:(2*(len+n))*(by_+1)=2*((len+n)*(by_+1)):=by rw [Nat.mul_assoc]
  have h5:(2:Nat) ^ 48=281474976710656:=by decide
  rw [hby,h5];omega
 have hnc:len+n≤Question.cut (.appendCap (len+n) cap e) (w.tape w.drawn (.appendCap (len+n) cap e)):=Nat.le_add_right _ _;refine ⟨Question.cut (.appendCap (len+n) cap e) (w.tape w.drawn (.appendCap (len+n) cap e)),{ heap:=w.heap.push (.cells (old'.toArray ++ new'.toArray ++ Builtin.zeroCells zv.cells (Question.cut (.appendCap (len+n) cap e) (w.tape w.drawn (.appendCap (len+n) cap e)) - (len+n))) e),tape:=w.tape,drawn:=w.drawn+1,os:=w.os,output:=w.output },hnc,?_,?_⟩
 ·have hzz:=fun k=>Q8 hzl hz0 k;rw [hby] at hns;cases d
  case int k=>exact absurd rfl (hd k)
  all_goals
   simp only [Builtin.append_,e1,e2,e3,e4,zA5,run_underlying hu,run_underlying hx,zA1,zB1,hsr,zD8,if_false,Bool.not_false,if_true,hl];rw [if_neg (by omega)];simp only [zA5,hti,zA1,hby];rw [if_neg (by rintro ⟨-,q⟩;simp at q)];simp only [zA5,zB1,zA1,if_neg hns,hti,hby,run_choose,Question.forced,zD8,if_false,run_askRoom,ho,hf,hzrun,newRow,run_newObj]
 ·refine ⟨?_,rfl,rfl,rfl⟩;have hzz:=Q8 hzl hz0 (Question.cut (.appendCap (len+n) cap e) (w.tape w.drawn (.appendCap (len+n) cap e)) - (len+n));have hlz:zv.cells.size=z.length:=by rw [← hzl,zC2]
  have:Builtin.zeroCells zv.cells (Question.cut (.appendCap (len+n) cap e) (w.tape w.drawn (.appendCap (len+n) cap e)) - (len+n))=(zn z (Question.cut (.appendCap (len+n) cap e) (w.tape w.drawn (.appendCap (len+n) cap e)) - (len+n))).toArray:=by
   unfold Builtin.zeroCells;rw [← hzz,hlz]
  simp only [this,List.append_toArray,zF2]
theorem qfL {d:TypeDesc} (h:∀ k,d = .int k→False):∀ k,d≠.int k:=fun k q=>h k q
theorem wu [Glob] {B:Bs} {f:Emb} {h h':AH} {w:World} (r:Rel B f h w) {types:List TypeId} {ty:TypeId} {s s' x x' v:Value}
 (ha:Qh P types s x h=some (v,h')) (hs:VR f s s') (hx:VR f x x') :
 ∃ f' v' w',(Builtin.append_ types.toArray ty #[s',x']).run P w = .ok v' w'∧Rel B f' h' w'∧Turn f h w f' h' w'∧VR f' v v':=by
 unfold Qh at ha;split at ha
 rotate_left
 ·cases ha
 rename_i ts tx
 split at ha
 ·cases ha
 rotate_left
 ·cases ha
 rename_i e d hint he hd
 have hu:=QQ he;have hdi:∀ k,d≠.int k:=hint;split at ha
 rotate_left
 ·cases ha
 rename_i z by_ hz hb
 obtain ⟨i,zv,hi,hzv,hzl,hsz,hz0,hpl⟩:=jy hz;have hsr:(sizeOf e).run P w = .ok z.length w:=by simp [sizeOf,typeInfo,hi,hsz]
 have hzr:VRs f z z:=by rw [← hzl];exact (VR.plain f zv hpl).cells
 split at ha
 rotate_left
 ·cases ha
 rename_i n new hsrc
 split at ha
 rotate_left
 ·cases ha
 rename_i hcond
 simp only [zA8] at hcond;have hsm1:=zB6 hcond.1;have hone:=hcond.2.1;have hnl:new.length=n*z.length:=zA6 hcond.2.2;obtain ⟨new',hn1,hn2,hn3⟩:=Yw r hsrc hx;split at ha
 ·
  cases hs
  split at ha
  ·cases ha
   refine ⟨f,.slice none 0 0,w,?_,r,Turn.refl _ _ _,.nilSlice⟩;rw [show (List.toArray [ts,tx])=#[ts,tx] from rfl,run_append_room hu hdi hd hsr (hn2 w) (hn3 w rfl) (by omega)];rfl
  ·rename_i hn0
   cases ha
   have hn0:n≠0:=fun q=>hn0 (by subst q;rfl);obtain ⟨nc,w',q1,q2,q3⟩:=run_append_grow (old':=[]) (ty:=ty) (base:=none) (len:=0) (cap:=0) hu hdi hd hz hb hn2 hn3 (fun _ _=>rfl) (by omega)
    (by rw [zG1];exact zD0 (zD3 _ (by omega)) hsm1)
   rw [zG1] at q1 q2 q3;have hle:=r.QW ⟨w.heap.size,0,nc - n⟩;obtain ⟨r1,r2⟩:=r.add (s:=nc - n) (o:=.cells new e (some z.length) false) q3 (by
    refine ⟨_,(0,0),q3.new,?_,fun j u hj=>?_,(fun q=>by cases q),fun k hk=>?_,(fun _ j q=>by simp at q)⟩
    ·simp only [zC0,zE5,zB2,hn1.length];omega
    ·obtain ⟨u',p1,p2⟩:=(hn1.mono hle).get j u hj;refine ⟨u',?_,p2⟩;have hjl:j<new'.length:=by rw [hn1.length];exact (zD5.1 hj).1
     simp only [zG1,zC0,List.getElem?_toArray];rw [zH7 hjl];exact p1
    ·cases hk
     simp only [zC0,zE5,zB2,hn1.length,Ql];omega)
   refine ⟨_,_,w',q2,r1,r2,?_⟩;have:=VR.slice (f:=f.put h.next ⟨w.heap.size,0,nc - n⟩) h.next 0 ⟨w.heap.size,0,none⟩ n n ⟨w.heap.size,0,nc - n⟩ (Emb.qP _ _ _) (zA3 _) (.inl rfl)
   rw [show n+(nc - n)=nc by omega] at this;exact this
 ·rename_i b o len cap
  obtain ⟨L,o',hL,rfl,hlc,ho⟩:=hs.jo;simp only at ha;split at ha
  rotate_left
  ·cases ha
  rename_i c eb slk ro hg
  have hO:=r.obj b L _ hL hg;split at ha
  ·rename_i hroom
   have hroom:=zB6 hroom;split at ha
   ·cases ha
    refine ⟨f,.slice (some o') len (cap+L.slack),w,?_,r,Turn.refl _ _ _,.slice b o o' len cap L hL hlc ho⟩;have hnil:new'=[]:=zE8.1 (by rw [hn1.length,hnl];omega);rw [show (List.toArray [ts,tx])=#[ts,tx] from rfl,run_append_room hu hdi hd hsr (hn2 w) (hn3 w rfl) (by omega),hnil];rfl
   ·rename_i hn0
    have hn0:n≠0:=fun q=>hn0 (by subst q;rfl);split at ha
    ·cases ha
    ·split at ha
     ·rename_i h2 hput
      cases ha
      obtain ⟨w',q1,q2,q3⟩:=QS (P:=P) r hL hg hput hn1;have ho':o'=⟨L.blk,L.sh+o,none⟩:=by
       rcases ho with ho|⟨h0,-⟩
       ·exact ho
       ·omega
      subst ho';refine ⟨f,.slice (some ⟨L.blk,L.sh+o,none⟩) (len+n) (cap+L.slack),w',?_,q2,q3,.slice b o _ _ cap L hL hroom (.inl rfl)⟩;rw [show (List.toArray [ts,tx])=#[ts,tx] from rfl,run_append_room hu hdi hd hsr (hn2 w) (hn3 w rfl) (by omega)];simp only [jJ,zF7,q1,zA1]
     ·cases ha
  ·rename_i hroom
   have hroom:cap<len+n:=by
    rcases zA7 cap (len+n) with h|h
    ·exact h
    ·rw [zB3 h] at hroom;cases hroom
   split at ha
   rotate_left
   ·cases ha
   rename_i old hold hsm
   have hsm:=zB6 hsm;obtain ⟨old',ho1,ho2,ho3⟩:=hO.seg hold;have hn0:n≠0:=by omega
   have hread:∀ w2:World,w2.heap=w.heap→(Builtin.firstCells z.length len (.slice (some o') len (cap+L.slack))).run P w2 = .ok old'.toArray w2:=by
    intro w2 hw2;by_cases hl0:len=0
    ·subst hl0;have:old'=[]:=zE8.1 (by omega);subst this;simp [Builtin.firstCells,loadCells,loadCellsFrom]
    ·have ho':o'=⟨L.blk,L.sh+o,none⟩:=by
      rcases ho with ho|⟨h0,-⟩
      ·exact ho
      ·omega
     subst ho';simp only [Builtin.firstCells];exact Qa ho2 fun j v e=>by rw [wI hw2];exact ho3 j v e
   have grow:∀ (h1:AH),Rel B f h1 w→Turn f h w f h1 w→h1.next=h.next→cap+L.slack<len+n →
    ∃ f' v' w',(Builtin.append_ #[ts,tx] ty #[.slice (some o') len (cap+L.slack),x']).run P w = .ok v' w'∧Rel B f' (h1.add (.cells (old ++ new) e (some z.length) false)) w' ∧
     Turn f h w f' (h1.add (.cells (old ++ new) e (some z.length) false)) w'∧VR f' (.slice (some ⟨h.next,0,none⟩) (len+n) (len+n)) v':=by
    intro h1 r1 t1 hnx hgr;obtain ⟨nc,w',q1,q2,q3⟩:=run_append_grow (ty:=ty) (base:=some o') hu hdi hd hz hb hn2 hn3 hread hgr hsm;have hle:=r1.QW ⟨w.heap.size,0,nc - (len+n)⟩;have hall:=(ho1.append hn1).mono hle;have hll:(old ++ new).length=(len+n)*z.length:=by
     rw [zB2,hnl,zE0];have h9:=(JD hold).2.1;omega
    obtain ⟨r2,r3⟩:=r1.add (s:=nc - (len+n)) (o:=.cells (old ++ new) e (some z.length) false) q3 (by
     refine ⟨_,(0,0),q3.new,?_,fun j u hj=>?_,(fun q=>by cases q),fun k hk=>?_,(fun _ j q=>by simp at q)⟩
     ·have h8:=hall.length;simp only [zB2] at h8;simp only [zE5,zB2];omega
     ·obtain ⟨u',p1,p2⟩:=hall.get j u hj;refine ⟨u',?_,p2⟩;have hjl:j<(old' ++ new').length:=(zD5.1 p1).1;simp only [zG1,List.getElem?_toArray];rw [← zF2,zH7 hjl];exact p1
     ·cases hk
      have h8:=hall.length;simp only [zB2] at h8;simp only [zE5,zB2,Ql];omega)
    refine ⟨_,_,w',q2,r2,t1.trans r3 r.dom,?_⟩;have:=VR.slice (f:=f.put h1.next ⟨w.heap.size,0,nc - (len+n)⟩) h1.next 0 ⟨w.heap.size,0,none⟩ (len+n) (len+n) ⟨w.heap.size,0,nc - (len+n)⟩ (Emb.qP _ _ _) (zA3 _) (.inl rfl)
    rw [show len+n+(nc - (len+n))=nc by omega] at this;rw [← hnx];exact this
   split at ha
   ·cases ha
    obtain ⟨cc,fr,-,-,-,h4,-,-⟩:=hO;obtain ⟨s0,-⟩:=h4 rfl;rw [show (List.toArray [ts,tx])=#[ts,tx] from rfl];exact grow h r (Turn.refl _ _ _) rfl (by omega)
   ·rename_i k
    split at ha
    rotate_left
    ·cases ha
    rename_i hk
    cases ha
    simp only [zA8] at hk;obtain rfl:=zA6 hk.1.1;obtain rfl:=zA6 hk.1.2;have hbound:=zB6 hk.2;obtain ⟨rk,tk⟩:=r.kill hL;rw [show (List.toArray [ts,tx])=#[ts,tx] from rfl];by_cases hgr:cap+L.slack<len+n
    ·exact grow _ rk tk rfl hgr
    ·
     obtain ⟨cc,fr,h1,h2,h3,h4,h5,h6⟩:=hO;have h5:=h5 _ rfl;have ho':o'=⟨L.blk,L.sh+o,none⟩:=by
      rcases ho with ho|⟨h0,h1⟩
      ·exact ho
      ·omega
     subst ho';have hm1:(len+n)*z.length≤(cap+L.slack)*z.length:=zD3 _ (by omega);rw [zE0,zE0] at hm1;have hnl':new'.length=n*z.length:=by rw [hn1.length,hnl]
     obtain ⟨w',q1,q2⟩:=jR (P:=P) (o:=L.sh+o+len*z.length) new' 0 cc w h1 (by rw [hn1.one?];exact hone) (by omega) (h6 rfl);rw [Nat.add_zero] at q2;have hlen:L.sh+o+len*z.length+new'.length≤cc.toList.length:=by
      have e1:cc.toList.length=cc.size:=zC2;omega
     have hB:=r.own b L _ hL hg rfl;have hle:=rk.QW ⟨L.blk,L.sh+o,cap+L.slack - (len+n)⟩;obtain ⟨hx1,hx2,hx3⟩:=JD hold;obtain ⟨r2,r3⟩:=rk.view (sh:=L.sh+o) (s:=cap+L.slack - (len+n)) (o:=.cells (old ++ new) eb (some z.length) false) hL (jq _ _) (fun b' L' p e1 e2 e3=>by
      rw [AH.get_put] at e2;by_cases hbb:b'=b
      ·rw [if_pos hbb] at e2;cases e2;cases e3
      ·rw [if_neg hbb] at e2;exact fun q=>hbb (r.inj b' L' p b L _ e1 e2 hL hg q e3 rfl)) hB q2 (by
      refine ⟨_,fr,q2.here,?_,fun j u hj=>?_,(fun q=>by cases q),fun k hk=>?_,h6⟩
      ·simp only [zE5,zB _ _ _ hlen,zC2,zB2,hx2,hnl];omega
      ·simp only [List.getElem?_toArray,jg _ _ _ hlen];rw [zF0,hx2] at hj;by_cases hj1:j<len*z.length
       ·rw [if_pos hj1,hx1] at hj;rw [if_pos (by omega),zC1];rw [zC7,if_pos hj1,zC3] at hj;obtain ⟨u',p1,p2⟩:=h3 _ _ hj;exact ⟨u',by rw [zF7];exact p1,p2.mono hle⟩
       ·rw [if_neg hj1] at hj;have hj2:j - len*z.length<new.length:=(zD5.1 hj).1;rw [if_neg (by omega),if_pos (by omega)];obtain ⟨u',p1,p2⟩:=(hn1.mono hle).get _ _ hj;exact ⟨u',by rw [show L.sh+o+j - (L.sh+o+len*z.length)=j - len*z.length by omega];exact p1,p2⟩
      ·cases hk
       have hm2:(cap+L.slack - (len+n))*z.length+(len+n)*z.length=(cap+L.slack)*z.length:=by rw [← zE0];congr 1;omega
       rw [zE0,zE0] at hm2;simp only [zE5,zB _ _ _ hlen,zC2,zB2,hx2,hnl];omega)
     refine ⟨_,.slice (some ⟨L.blk,L.sh+o,none⟩) (len+n) (cap+L.slack),w',?_,r2,tk.trans r3 r.dom,?_⟩
     ·rw [run_append_room hu hdi hd hsr (hn2 w) (hn3 w rfl) (by omega)];simp only [jJ,q1,zA1]
     ·have:=VR.slice (f:=f.put (h.put b .dead).next ⟨L.blk,L.sh+o,cap+L.slack - (len+n)⟩) (h.put b .dead).next 0 ⟨L.blk,L.sh+o,none⟩ (len+n) (len+n) ⟨L.blk,L.sh+o,cap+L.slack - (len+n)⟩ (Emb.qP _ _ _) (zA3 _) (.inl rfl)
      rw [show len+n+(cap+L.slack - (len+n))=cap+L.slack by omega] at this;exact this
 ·cases ha
end
end Go.Proofs.Xx
