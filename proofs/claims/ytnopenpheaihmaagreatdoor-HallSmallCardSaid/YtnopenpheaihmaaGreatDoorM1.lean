/-
  Further operations: what the checked run does,the machine does.
-/
import Derived.Test.YtnopenpheaihmaaGreatDoorM0
import Derived.IntWalk
import Derived.Laws.StructEq
import Derived.Laws.BytesString
import Derived.Laws.BytesArg
import Derived.Lib.UnsafeStr
namespace Go.Proofs.Xx
open Go
set_option linter.unusedSimpArgs false
set_option linter.unusedVariables false
section
variable {P:Program}
theorem GL (n:Nat) (h:n<9223372036854775808):IntKind.i64.wrap (n:Int)=(n:Int):=IntWalk.i64_in _ (by omega)
theorem VZ [Glob] {B:Bs} {f:Emb} {h h':AH} {w:World} (r:Rel B f h w) {t:TypeId} {l l' c c' v:Value}
 (hb:QA P t l c h=some (v,h')) (hl:VR f l l') (hc:VR f c c') :
 ∃ f' v' w',(Instr.makeSlice t l' c').run P w = .ok v' w'∧Rel B f' h' w'∧Turn f h w f' h' w'∧VR f' v v':=by
 unfold QA at hb
 split at hb
 ·rename_i n m
  cases hl;cases hc
  split at hb
  ·rename_i e he
   have hu:=ZH he
   split at hb
   ·rename_i z by_ hz hby
    obtain ⟨i,zv,hi,hzv,hzl,hsz,hz0,hpl⟩:=jT hz
    split at hb
    ·rename_i hq
     cases hb
     simp only [Bool.and_eq_true] at hq
     have h1:=Nat.le_of_ble_eq_true hq.1
     have h2:=Nat.le_of_ble_eq_true hq.2
     have h3:i.bytes=by_:=by unfold Qm at hby;rw [hi] at hby;cases hby;rfl
     have hm1:m*by_+m≤1099511627776:=by rw [Nat.mul_succ] at h2;exact h2
     have hzr:VRs f z z:=by rw [← hzl];exact (VR.plain f zv hpl).cells
     have hpush:=jk w (.cells (zh z m).toArray e)
     obtain ⟨r1,r2⟩:=r.new (hzr.zh m) hpush
     refine ⟨_,.slice (some ⟨w.heap.size,0,none⟩) n m,_,?_,r1,r2,?_⟩
     ·have hsr:(sizeOf e).run P w = .ok z.length w:=by simp [sizeOf,typeInfo,hi,hsz]
      have hzrun:(zeroValue e).run P w = .ok zv w:=by simp [zeroValue,typeInfo,hi,hzv]
      have hti:(typeInfo e).run P w = .ok i w:=by simp [typeInfo,hi]
      have hn:IntKind.i64.wrap (Int.ofNat n)=(n:Int):=GL n (by omega)
      have hm:IntKind.i64.wrap (Int.ofNat m)=(m:Int):=GL m (by omega)
      have hbm:((by_:Nat):Int)*(m:Int)≤281474976710656:=by
       have h5:by_*m≤1099511627776:=by rw [Nat.mul_comm];omega
       have h6:((by_*m:Nat):Int)≤281474976710656:=by omega
       rw [Int.natCast_mul] at h6;exact h6
      have hc1:(decide ((m:Int)<0) || decide ((by_:Int)*(m:Int) > 2 ^ 48) || decide ((n:Int)<0) || decide ((n:Int) > (m:Int)))=false:=by
       rw [show (2:Int) ^ 48=281474976710656 from rfl]
       simp only [Bool.or_eq_false_iff,decide_eq_false_iff_not]
       omega
      simp only [Instr.makeSlice,Sem.run_bind,run_underlying hu,Result.andThen_ok,asInt,asIntOf,Sem.run_pure,hti,h3,hn,hm]
      simp only [hc1,Bool.false_eq_true,if_false,Sem.run_bind,run_askRoom,Result.andThen_ok,Int.toNat_natCast,hsr]
      by_cases hl0:m*z.length=0
      ·have:m=0:=by
        rcases Nat.mul_eq_zero.1 hl0 with h|h
        ·exact h
        ·exact absurd h hz0
       subst this
       simp only [Nat.zero_mul,if_true,Sem.run_pure,Result.andThen_ok,hr0,Array.map_empty,newRow,Sem.run_bind,run_newObj]
       rfl
      ·rw [if_neg hl0]
       simp only [Sem.run_bind,hzrun,Result.andThen_ok,Sem.run_pure]
       have hzz:(Array.range (m*z.length)).map (fun i=>zv.cells[i % zv.cells.size]!)=(zh z m).toArray:=QY hzl hz0 m
       rw [hzz]
       simp only [newRow,Sem.run_bind,run_newObj,Result.andThen_ok,Sem.run_pure]
     ·exact VR.slice h.next 0 _ n m ⟨w.heap.size,0,0⟩ (Emb.qZ _ _ _) h1 (.inl rfl)
    ·cases hb
   ·cases hb
  ·cases hb
 ·cases hb
theorem WG {f:Emb} {cs cs':Array Value} (h:VRs f cs.toList cs'.toList) {o n:Nat} {xs:List Value} (ht:zx cs.toList o n=some xs):VR f (.agg xs.toArray) (.agg (cs'.extract o (o+n))):=by
 obtain ⟨rfl,-,-⟩:=JE ht
 have:(cs'.extract o (o+n))=((cs'.toList.drop o).take n).toArray:=by
  apply Array.ext'
  simp only [Array.toList_extract,List.extract_eq_take_drop]
  rw [show o+n - o=n by omega]
 rw [this]
 exact .agg _ _ ((h.drop o).take n)
theorem VR.Ye {f:Emb} {cs:Array Value} {v:Value} (h:VR f (.agg cs) v):∃ cs':Array Value,v = .agg cs'∧VRs f cs.toList cs'.toList:=by
 generalize hx:Value.agg cs=x at h
 cases h with
 | agg c c' h=>cases hx;exact ⟨_,rfl,by simpa using h⟩
 | _=>cases hx
theorem VR.wB {f:Emb} {cs:Array Value} {v:Value} (h:VR f (.tuple cs) v):∃ cs':Array Value,v = .tuple cs'∧VRs f cs.toList cs'.toList:=by
 generalize hx:Value.tuple cs=x at h
 cases h with
 | tuple c c' h=>cases hx;exact ⟨_,rfl,by simpa using h⟩
 | _=>cases hx
theorem VR.qan {f:Emb} {g:FuncId} {a c:Array Value} {v:Value} (h:VR f (.func (.func g) a c) v):∃ a' c':Array Value,v = .func (.func g) a' c'∧VRs f a.toList a'.toList∧VRs f c.toList c'.toList:=by
 generalize hx:Value.func (.func g) a c=x at h
 cases h with
 | func g a a' c c' h1 h2=>cases hx;exact ⟨_,_,rfl,by simpa using h1,by simpa using h2⟩
 | _=>cases hx
theorem VR.qcb {f:Emb} {l:Nat} {v:Value} (h:VR f (.func (.yield l) #[] #[]) v):∃ L,f l=some L∧v = .func (.yield L.blk) #[] #[]:=by
 generalize hx:Value.func (.yield l) #[] #[]=x at h
 cases h with
 | yield l L h=>cases hx;exact ⟨L,h,rfl⟩
 | _=>cases hx
theorem Gt {f:Emb} {w:World} {t:TypeId} {x x' v:Value} {k:Nat} (h:qbs P t x k=some v) (hx:VR f x x') :
 ∃ v',(Instr.field t x' k).run P w = .ok v' w∧VR f v v':=by
 unfold qbs at h
 split at h
 ·rename_i cs fs hu
  obtain ⟨cs',rfl,hcs⟩:=hx.Ye
  split at h
  ·rename_i fd hfd
   split at h
   ·rename_i hagg
    split at h
    ·rename_i n hn
     split at h
     ·rename_i xs hxs
      cases h
      refine ⟨_,?_,WG hcs hxs⟩
      simp only [Instr.field,Sem.run_bind,run_underlying hu,Result.andThen_ok,hfd,asAgg,Sem.run_pure,part,Q7 hagg,if_true,zJ hn]
     ·cases h
    ·cases h
   ·rename_i hagg
    obtain ⟨v',q1,q2⟩:=hcs.get _ _ h
    refine ⟨v',?_,q2⟩
    rw [Array.getElem?_toList] at q1
    simp only [Instr.field,Sem.run_bind,run_underlying hu,Result.andThen_ok,hfd,asAgg,Sem.run_pure,part,Q7 hagg,Bool.false_eq_true,if_false,q1]
   ·cases h
  ·cases h
 ·cases h
theorem V5 {f:Emb} {w:World} {t:TypeId} {x x' v:Value} {k:Nat} (h:Xf P t x k=some v) (hx:VR f x x') :
 ∃ v',(Instr.fieldAt t x' k).run P w = .ok v' w∧VR f v v':=by
 unfold Xf at h
 split at h
 ·rename_i b o fs hu
  obtain ⟨L,hL,rfl⟩:=hx.zZ
  split at h
  ·rename_i fd hfd
   split at h
   ·rename_i n hn
    cases h
    refine ⟨_,?_,.pointer _ _ L hL⟩
    simp only [Instr.fieldAt,Sem.run_bind,run_underlying hu,Result.andThen_ok,hfd,Instr.sureAddr,Sem.run_pure,fieldPlace,zJ hn]
    rw [if_neg (by omega)]
    simp only [Sem.run_pure,Result.andThen_ok,jR,Nat.add_assoc]
   ·cases h
  ·cases h
 ·cases h
theorem V4 {f:Emb} {w:World} {t:TypeId} {x x' i i' v:Value} (h:zV P t x i=some v) (hx:VR f x x') (hi:VR f i i') :
 ∃ v',(Instr.indexAt t x' i').run P w = .ok v' w∧VR f v v':=by
 unfold zV at h
 split at h
 ·rename_i b o kk k len e hu
  obtain ⟨L,hL,rfl⟩:=hx.zZ
  cases hi
  split at h
  ·rename_i n hlt hn
   cases h
   have hlt:k<len:=by rw [Nat.blt_eq] at hlt;exact hlt
   refine ⟨_,?_,.pointer _ _ L hL⟩
   have hcond:0≤(Int.ofNat k)∧(Int.ofNat k)<(len:Int):=by
    constructor
    ·exact Int.natCast_nonneg k
    ·exact Int.ofNat_lt.2 hlt
   simp only [Instr.indexAt,Sem.run_bind,asIntOf,run_underlying hu,Result.andThen_ok,Instr.sureAddr,Sem.run_pure]
   rw [if_pos hcond]
   simp only [Sem.run_bind,zJ hn,Result.andThen_ok,Sem.run_pure,jR,Nat.add_assoc]
   rfl
  ·cases h
 ·rename_i b o len cap kk k e hu
  obtain ⟨L,o',hL,rfl,hlc,ho⟩:=hx.Q5
  cases hi
  split at h
  ·rename_i n hlt hn
   cases h
   have hlt:k<len:=by rw [Nat.blt_eq] at hlt;exact hlt
   have ho':o'=⟨L.blk,L.sh+o,none⟩:=by
    rcases ho with ho|⟨h0,-⟩
    ·exact ho
    ·omega
   subst ho'
   refine ⟨_,?_,.pointer _ _ L hL⟩
   have hcond:0≤(Int.ofNat k)∧(Int.ofNat k)<(len:Int):=by
    constructor
    ·exact Int.natCast_nonneg k
    ·exact Int.ofNat_lt.2 hlt
   simp only [Instr.indexAt,Sem.run_bind,asIntOf,run_underlying hu,Result.andThen_ok,Instr.sureAddr,Sem.run_pure]
   rw [if_pos hcond]
   simp only [Sem.run_bind,zJ hn,Result.andThen_ok,Sem.run_pure,jR,Nat.add_assoc]
   rfl
  ·cases h
 ·cases h
theorem Gp {f:Emb} {w:World} {t:TypeId} {x x' i i' v:Value} (h:yZ P t x i=some v) (hx:VR f x x') (hi:VR f i i') :
 ∃ v',(Instr.index t x' i').run P w = .ok v' w∧VR f v v':=by
 unfold yZ at h
 split at h
 ·rename_i s kk k hu
  cases hx;cases hi
  split at h
  ·rename_i b hb
   cases h
   refine ⟨_,?_,.int _ _⟩
   simp only [Instr.index,Sem.run_bind,asIntOf,run_underlying hu,Result.andThen_ok,Sem.run_pure]
   have h1:0≤Int.ofNat k:=Int.natCast_nonneg k
   rw [if_pos h1]
   have hk:k<s.data.size:=by
    rw [Array.getElem?_toList] at hb
    exact (Array.getElem?_eq_some_iff.1 hb).1
   have h2:s[(Int.ofNat k).toNat]? = some b:=by
    have h3:(Int.ofNat k).toNat=k:=rfl
    rw [h3]
    rw [Array.getElem?_toList] at hb
    have h4:s[k]? = some s[k]:=getElem?_pos s k hk
    rw [h4]
    have h5:=(Array.getElem?_eq_some_iff.1 hb).2
    rw [← h5]
    rfl
   rw [h2]
   rfl
  ·cases h
 ·rename_i cs kk k len e hu
  obtain ⟨cs',rfl,hcs⟩:=hx.Ye
  cases hi
  have hcond:∀ hlt:Nat.blt k len=true,0≤(Int.ofNat k)∧(Int.ofNat k)<(len:Int):=fun hlt=>by
   rw [Nat.blt_eq] at hlt
   exact ⟨Int.natCast_nonneg k,Int.ofNat_lt.2 hlt⟩
  have hk3:(Int.ofNat k).toNat=k:=rfl
  split at h
  ·rename_i n hlt hagg hn
   split at h
   ·rename_i xs hxs
    cases h
    refine ⟨_,?_,WG hcs hxs⟩
    simp only [Instr.index,Sem.run_bind,asIntOf,run_underlying hu,Result.andThen_ok,Sem.run_pure]
    rw [if_pos (hcond hlt)]
    simp only [Sem.run_bind,zJ hn,Result.andThen_ok,part,Q7 hagg,if_true,Sem.run_pure,hk3]
   ·cases h
  ·rename_i n hlt hagg hn
   obtain ⟨v',q1,q2⟩:=hcs.get _ _ h
   refine ⟨v',?_,q2⟩
   rw [Array.getElem?_toList] at q1
   simp only [Instr.index,Sem.run_bind,asIntOf,run_underlying hu,Result.andThen_ok,Sem.run_pure]
   rw [if_pos (hcond hlt)]
   simp only [Sem.run_bind,zJ hn,Result.andThen_ok,part,Q7 hagg,Bool.false_eq_true,if_false,Sem.run_pure,hk3,q1]
  ·cases h
 ·cases h
end
end Go.Proofs.Xx
namespace Go.Proofs.Xx
open Go
set_option linter.unusedSimpArgs false
set_option linter.unusedVariables false
section
variable {P:Program}
theorem bytes_append (a b:ByteArray):(⟨(a.data.toList ++ b.data.toList).toArray⟩:ByteArray)=a ++ b:=by
 apply qay
 rw [ByteArray.data_append,Array.toList_append]
theorem qfr {f:Emb} {op:BinOp} {a b:Int} {r:Bool} (h:cmpInt op a b=some r) (w:World):(Op.intCmp op a b).run P w = .ok (.bool r) w:=by
 cases op<;>simp only [cmpInt] at h<;>first|(cases h;done)|(cases h;rfl)
theorem wP {t:TypeId} {x y:Value} {r:Bool} {w:World} (h:∀ d,(Op.equalIn (d+1) t x y).run P w = .ok r w):(Op.equal t x y).run P w = .ok r w:=h 9999
theorem X0 {t:TypeId} {x y:Value} {r:Bool} {w:World} (hd:∀ w:World,(binOp .eql t x y).run P w=((Op.equal t x y).run P w).andThen fun b w=>.ok (.bool b) w) (h:∀ d,(Op.equalIn (d+1) t x y).run P w = .ok r w):(binOp .eql t x y).run P w = .ok (.bool r) w:=by
 rw [hd,wP h];rfl
theorem XZ {t:TypeId} {x y:Value} {r:Bool} {w:World} (hd:∀ w:World,(binOp .neq t x y).run P w=((Op.equal t x y).run P w).andThen fun b w=>.ok (.bool !b) w) (h:∀ d,(Op.equalIn (d+1) t x y).run P w = .ok r w):(binOp .neq t x y).run P w = .ok (.bool !r) w:=by
 rw [hd,wP h];rfl
theorem Ya (t:TypeId) (x y:Value) (w:World) (h:binOp .eql t x y=(do pure (.bool (← Op.equal t x y)))):(binOp .eql t x y).run P w=((Op.equal t x y).run P w).andThen fun b w=>.ok (.bool b) w:=by
 rw [h,Sem.run_bind];rfl
theorem X9 (t:TypeId) (x y:Value) (w:World) (h:binOp .neq t x y=(do pure (.bool (!(← Op.equal t x y))))):(binOp .neq t x y).run P w=((Op.equal t x y).run P w).andThen fun b w=>.ok (.bool !b) w:=by
 rw [h,Sem.run_bind];rfl
theorem PW {t:TypeId} (h:pairT P t=true):∃ fs f g,P.underlying t=some (.struct fs)∧fs.toList=[f,g]∧P.underlying f.type=some (.int .i64)∧P.underlying g.type=some (.int .i64)∧Zd P f.type=some false∧Zd P g.type=some false∧f.offset=0∧g.offset=1∧f.name ≠ "_" ∧ g.name ≠ "_" ∧ P.stoodInHeld t=false∧P.eqGuardType P.depth t=false:=by
 unfold pairT at h
 split at h
 ·rename_i fs hu
  split at h
  ·rename_i f g hf
   split at h
   ·rename_i h1 h2 h3 h4
    simp only [Bool.and_eq_true,decide_eq_true_eq,Bool.not_eq_true'] at h
    obtain ⟨q1,q2,q3,q4,q5,q6⟩:=h
    exact ⟨fs,f,g,hu,hf,h1,h2,h3,h4,Nat.eq_of_beq_eq_true q1,Nat.eq_of_beq_eq_true q2,q3,q4,q5,q6⟩
   ·cases h
  ·cases h
 ·cases h
theorem VRs.qfQ {f:Emb} {x y:Int} {c:Array Value} (h:VRs f [.int .i64 x,.int .i64 y] c.toList):c.toList=[.int .i64 x,.int .i64 y]∧c=#[.int .i64 x,.int .i64 y]:=by
 obtain ⟨l⟩:=c
 simp only at h
 have:l=[.int .i64 x,.int .i64 y]:=by
  cases h with
  | cons u v s s' h1 h2 =>
   cases h1
   cases h2 with
   | cons u v s s' h1 h2 =>
    cases h1
    cases h2
    rfl
 subst this
 exact ⟨rfl,rfl⟩
theorem qaQ {t:TypeId} {a0 a1 b0 b1:Int} {a b:Array Value} {w:World} (h:pairT P t=true) (ha:a=#[.int .i64 a0,.int .i64 a1]) (hb:b=#[.int .i64 b0,.int .i64 b1]):(binOp .eql t (.agg a) (.agg b)).run P w = .ok (.bool (a0 == b0 && a1 == b1)) w:=by
 subst ha hb
 obtain ⟨fs,f,g,hu,hf,h1,h2,h3,h4,o1,o2,n1,n2,hs,-⟩:=PW h
 have hF:P.fieldsOf t=fs:=by unfold Program.fieldsOf;rw [hu]
 have hpart:∀ (e:TypeId) (cs:Array Value) (i:Nat) (v:Value),Zd P e=some false→cs[i]? = some v→∀ w,(part e cs i).run P w = .ok v w:=fun e cs i v q1 q2 w=>by
  simp only [part,Sem.run_bind,Q7 q1,Result.andThen_ok,Bool.false_eq_true,if_false,q2,Sem.run_pure]
 have p0:=hpart f.type #[.int .i64 a0,.int .i64 a1] 0 (.int .i64 a0) h3 rfl
 have p1:=hpart g.type #[.int .i64 a0,.int .i64 a1] 1 (.int .i64 a1) h4 rfl
 have p2:=hpart f.type #[.int .i64 b0,.int .i64 b1] 0 (.int .i64 b0) h3 rfl
 have p3:=hpart g.type #[.int .i64 b0,.int .i64 b1] 1 (.int .i64 b1) h4 rfl
 have q0:∀ w,(Op.equalIn 9999 f.type (.int .i64 a0) (.int .i64 b0)).run P w = .ok (a0 == b0) w:=fun w=>run_equalIn_int w 9998 _ .i64 .i64 _ _ h1
 have q1:∀ w,(Op.equalIn 9999 g.type (.int .i64 a1) (.int .i64 b1)).run P w = .ok (a1 == b1) w:=fun w=>run_equalIn_int w 9998 _ .i64 .i64 _ _ h2
 rw [run_eql_struct,show (10000:Nat)=9999+1 from rfl,run_equalIn_agg w 9999 t _ _ (by rw [hF];exact hu) hs,hF,hf]
 unfold Op.eqFields
 rw [if_pos n1]
 unfold Op.eqFields
 rw [if_pos n2]
 unfold Op.eqFields
 simp only [Sem.run_bind,o1,o2,p0,p1,p2,p3,q0,q1,Result.andThen_ok,Sem.run_ite,Sem.run_pure]
 cases (a0 == b0)<;>cases (a1 == b1)<;>rfl
theorem qbu {f:Emb} {w:World} {op:BinOp} {t:TypeId} {x x' y y' v:Value} (h:QW P op t x y=some v) (hx:VR f x x') (hy:VR f y y') :
 ∃ v',(binOp op t x' y').run P w = .ok v' w∧VR f v v':=by
 unfold QW at h
 split at h
 ·rename_i k a k' b
  cases hx;cases hy
  split at h
  ·split at h
   ·cases h
   ·rename_i hb
    cases h
    refine ⟨_,?_,.int _ _⟩
    simp only [binOp,Op.shift]
    rw [if_neg (of_decide_eq_false hb)]
    rfl
  ·split at h
   ·cases h
   ·rename_i hb
    cases h
    refine ⟨_,?_,.int _ _⟩
    simp only [binOp,Op.shift]
    rw [if_neg (of_decide_eq_false hb)]
    rfl
  ·rename_i n1 n2
   split at h
   ·cases h
   ·rename_i hk
    have hk:=of_decide_eq_true hk
    subst hk
    cases op
    case shl=>exact (n1 rfl).elim
    case shr=>exact (n2 rfl).elim
    case quo =>
     simp only at h
     split at h
     ·cases h
     ·rename_i hb
      cases h
      refine ⟨_,?_,.int _ _⟩
      simp only [binOp,ne_eq,not_true,if_false,Op.intDiv]
      rw [if_neg (of_decide_eq_false hb)]
      rfl
    case rem =>
     simp only at h
     split at h
     ·cases h
     ·rename_i hb
      cases h
      refine ⟨_,?_,.int _ _⟩
      simp only [binOp,ne_eq,not_true,if_false,Op.intDiv]
      rw [if_neg (of_decide_eq_false hb)]
      rfl
    all_goals first
     | (cases h;refine ⟨_,?_,.int _ _⟩;simp only [binOp,ne_eq,not_true,if_false];rfl)
     | (simp only [cmpInt] at h;cases h;refine ⟨_,?_,.bool _⟩;simp only [binOp,ne_eq,not_true,if_false];rfl)
 ·rename_i a b
  cases hx;cases hy
  split at h
  ·split at h
   ·rename_i hb
    cases h
    refine ⟨_,?_,.string _⟩
    have hle:=Nat.le_of_ble_eq_true hb
    rw [bytes_append]
    simp only [binOp,Op.stringOp]
    rw [if_neg]
    ·rfl
    ·rw [Qy,Qy]
     have:IntKind.i64.max=9223372036854775807:=by decide
     rw [this];omega
   ·cases h
  all_goals first
   | (cases h;done)
   | (
    cases h
    refine ⟨_,?_,.bool _⟩
    simp only [binOp,Op.stringOp,QT,jL]
    rfl)
 ·rename_i a b
  cases hx;cases hy
  split at h
  ·rename_i hu
   cases h
   refine ⟨_,?_,.bool _⟩
   exact X0 (fun w=>Ya _ _ _ w rfl) (fun d=>by simp only [Op.equalIn,Sem.run_bind,run_underlying hu,Result.andThen_ok];rfl)
  ·rename_i hu
   cases h
   refine ⟨_,?_,.bool _⟩
   exact XZ (fun w=>X9 _ _ _ w rfl) (fun d=>by simp only [Op.equalIn,Sem.run_bind,run_underlying hu,Result.andThen_ok];rfl)
  ·cases h
 ·rename_i a l c
  cases hy
  split at h
  ·rename_i e hu
   cases h
   refine ⟨_,?_,.bool _⟩
   cases hx with
   | nilSlice=>exact X0 (fun w=>Ya _ _ _ w rfl) (fun d=>by simp only [Op.equalIn,Sem.run_bind,run_underlying hu,Result.andThen_ok];rfl)
   | slice b o o' len cap L hb hl ho=>exact X0 (fun w=>Ya _ _ _ w rfl) (fun d=>by simp only [Op.equalIn,Sem.run_bind,run_underlying hu,Result.andThen_ok];rfl)
  ·rename_i e hu
   cases h
   refine ⟨_,?_,.bool _⟩
   cases hx with
   | nilSlice=>exact XZ (fun w=>X9 _ _ _ w rfl) (fun d=>by simp only [Op.equalIn,Sem.run_bind,run_underlying hu,Result.andThen_ok];rfl)
   | slice b o o' len cap L hb hl ho=>exact XZ (fun w=>X9 _ _ _ w rfl) (fun d=>by simp only [Op.equalIn,Sem.run_bind,run_underlying hu,Result.andThen_ok];rfl)
  ·cases h
 ·rename_i a
  cases hy
  split at h
  ·rename_i e hu
   cases h
   refine ⟨_,?_,.bool _⟩
   cases hx with
   | nilPointer=>exact X0 (fun w=>Ya _ _ _ w rfl) (fun d=>by simp only [Op.equalIn,Sem.run_bind,run_underlying hu,Result.andThen_ok];rfl)
   | pointer b o L hb=>exact X0 (fun w=>Ya _ _ _ w rfl) (fun d=>by simp only [Op.equalIn,Sem.run_bind,run_underlying hu,Result.andThen_ok];rfl)
  ·rename_i e hu
   cases h
   refine ⟨_,?_,.bool _⟩
   cases hx with
   | nilPointer=>exact XZ (fun w=>X9 _ _ _ w rfl) (fun d=>by simp only [Op.equalIn,Sem.run_bind,run_underlying hu,Result.andThen_ok];rfl)
   | pointer b o L hb=>exact XZ (fun w=>X9 _ _ _ w rfl) (fun d=>by simp only [Op.equalIn,Sem.run_bind,run_underlying hu,Result.andThen_ok];rfl)
  ·cases h
 ·rename_i b o b' o'
  obtain ⟨L,hL,rfl⟩:=hx.zZ
  obtain ⟨L',hL',rfl⟩:=hy.zZ
  have hsame:∀ (bb oo oo':Nat),(sameAddr ⟨bb,oo,none⟩ ⟨bb,oo',none⟩).run P w = .ok (Nat.beq oo oo') w:=fun bb oo oo'=>by
   simp only [sameAddr,beq_self_eq_true,↓reduceIte]
   have e:((⟨bb,oo,none⟩:Addr) == ⟨bb,oo',none⟩)=Nat.beq oo oo':=by
    rw [Bool.eq_iff_iff,beq_iff_eq,Nat.beq_eq]
    constructor
    ·intro h;cases h;rfl
    ·intro h;rw [h]
   rw [e];rfl
  have hadd:Nat.beq (L.sh+o) (L.sh+o')=Nat.beq o o':=by
   rw [Bool.eq_iff_iff,Nat.beq_eq,Nat.beq_eq];omega
  split at h
  ·rename_i e hu
   split at h
   ·rename_i n h1 h2
    cases h
    have:=Nat.eq_of_beq_eq_true h1
    subst this
    rw [hL] at hL';cases hL'
    refine ⟨_,?_,.bool _⟩
    refine X0 (fun w=>Ya _ _ _ w rfl) (fun d=>?_)
    simp only [Op.equalIn,Sem.run_bind,run_underlying hu,Result.andThen_ok,zJ h2]
    simp [hsame,hadd]
   ·cases h
  ·rename_i e hu
   split at h
   ·rename_i n h1 h2
    cases h
    have:=Nat.eq_of_beq_eq_true h1
    subst this
    rw [hL] at hL';cases hL'
    refine ⟨_,?_,.bool _⟩
    refine XZ (fun w=>X9 _ _ _ w rfl) (fun d=>?_)
    simp only [Op.equalIn,Sem.run_bind,run_underlying hu,Result.andThen_ok,zJ h2]
    simp [hsame,hadd]
   ·cases h
  ·cases h
 ·rename_i a b
  obtain ⟨a',rfl,ha⟩:=hx.Ye
  obtain ⟨b',rfl,hb⟩:=hy.Ye
  split at h
  ·rename_i a0 a1 b0 b1 ea eb
   split at h
   ·rename_i hp
    cases h
    rw [ea] at ha;rw [eb] at hb
    obtain ⟨ea',ka'⟩:=VRs.qfQ ha
    obtain ⟨eb',kb'⟩:=VRs.qfQ hb
    exact ⟨_,qaQ hp ka' kb',.bool _⟩
   ·cases h
  ·cases h
 ·cases h
theorem qdh {f:Emb} {w:World} {op:UnOp} {x x' v:Value} (h:aUn op x=some v) (hx:VR f x x'):∃ v',(Op.unary op x').run P w = .ok v' w∧VR f v v':=by
 unfold aUn at h
 split at h
 ·cases hx;cases h;exact ⟨_,rfl,.bool _⟩
 ·cases hx;cases h;exact ⟨_,rfl,.int _ _⟩
 ·cases h
theorem y5 {f:Emb} {w:World} {s d:TypeId} {x x' v:Value} (h:jf P s d x=some v) (hx:VR f x x'):∃ v',(convert s d x').run P w = .ok v' w∧VR f v v':=by
 unfold jf at h
 split at h
 ·rename_i k1 k2 k3 n h1 h2
  cases hx;cases h
  refine ⟨_,?_,.int _ _⟩
  simp [convert,run_underlying h1,run_underlying h2,Conv.intToInt]
 ·rename_i n h1 h2
  cases hx;cases h
  refine ⟨_,?_,.string _⟩
  simp [convert,run_underlying h1,run_underlying h2]
 ·rename_i k1 k2 n h1 h2
  cases hx;cases h
  refine ⟨_,?_,.string _⟩
  simp [convert,run_underlying h1,run_underlying h2,Conv.intToString]
 ·cases h
theorem byteOf?_eq {v:Value} {b:UInt8} (h:byteOf? v=some b):∃ n:Nat,v = .int .u8 n∧b=UInt8.ofNat n:=by
 unfold byteOf? at h
 split at h
 ·cases h;exact ⟨_,rfl,rfl⟩
 ·cases h
theorem bytesOf?_VRs {f:Emb}:∀ {xs xs':List Value} {s:List UInt8},bytesOf? xs=some s→VRs f xs xs'→xs'=xs∧s.length=xs.length
 | [],_,s,h,.nil=>by cases h;exact ⟨rfl,rfl⟩
 | v :: r,_,s,h,.cons _ v' _ r' hv hr=>by
  simp only [bytesOf?] at h
  split at h
  ·rename_i b t hb ht
   cases h
   obtain ⟨n,rfl,rfl⟩:=byteOf?_eq hb
   cases hv
   obtain ⟨h1,h2⟩:=bytesOf?_VRs ht hr
   exact ⟨by rw [h1],by simp [h2]⟩
  ·cases h
theorem qbq {f:Emb} {w:World} {t ty:TypeId} {ts:List TypeId} {x x' v:Value} (h:qbr P t x=some v) (hx:VR f x x') (r:List Value) :
 ∃ v',(Builtin.len_ (t :: ts).toArray ty (x' :: r).toArray).run P w = .ok v' w∧VR f v v':=by
 have e1:((t :: ts).toArray)[0]? = some t:=by simp
 have e2:((x' :: r).toArray)[0]? = some x':=by simp
 unfold qbr at h
 split at h
 ·rename_i s hu
  cases hx;cases h
  refine ⟨_,?_,.int _ _⟩
  simp only [Builtin.len_,e1,e2,Sem.run_bind,run_underlying hu,Result.andThen_ok,Sem.run_pure,goInt,Qy]
 ·rename_i a n c e hu
  cases h
  cases hx with
  | nilSlice =>
   refine ⟨_,?_,.int _ _⟩
   simp only [Builtin.len_,e1,e2,Sem.run_bind,run_underlying hu,Result.andThen_ok,Sem.run_pure,goInt]
  | slice b o o' len cap L hb hl ho =>
   refine ⟨_,?_,.int _ _⟩
   simp only [Builtin.len_,e1,e2,Sem.run_bind,run_underlying hu,Result.andThen_ok,Sem.run_pure,goInt]
 ·rename_i n e hu
  cases h
  refine ⟨_,?_,.int _ _⟩
  simp only [Builtin.len_,e1,e2,Sem.run_bind,run_underlying hu,Result.andThen_ok,Sem.run_pure,goInt]
 ·rename_i a hu
  split at h
  ·rename_i n e hu2
   cases h
   refine ⟨_,?_,.int _ _⟩
   simp only [Builtin.len_,e1,e2,Sem.run_bind,run_underlying hu,run_underlying hu2,Result.andThen_ok,Sem.run_pure,goInt]
  ·cases h
 ·cases h
theorem KI {f:Emb} {w:World} {x x' y y' v:Value} (h:lesser x y=some v) (hx:VR f x x') (hy:VR f y y'):∃ v',(Builtin.min2 x' y').run P w = .ok v' w∧VR f v v':=by
 unfold lesser at h
 split at h
 ·cases hx;cases hy;cases h
  exact ⟨_,rfl,.int _ _⟩
 ·cases hx;cases hy;cases h
  refine ⟨_,?_,.string _⟩
  simp only [Builtin.min2,Op.stringOp,QT,jL,Sem.run_bind,Sem.run_pure,Result.andThen_ok,asBool]
  rfl
 ·cases h
theorem vX {f:Emb} {w:World} {x x' y y' v:Value} (h:greater x y=some v) (hx:VR f x x') (hy:VR f y y'):∃ v',(Builtin.max2 x' y').run P w = .ok v' w∧VR f v v':=by
 unfold greater at h
 split at h
 ·cases hx;cases hy;cases h
  exact ⟨_,rfl,.int _ _⟩
 ·cases hx;cases hy;cases h
  refine ⟨_,?_,.string _⟩
  simp only [Builtin.max2,Op.stringOp,QT,jL,Sem.run_bind,Sem.run_pure,Result.andThen_ok,asBool]
 ·cases h
theorem XH {f:Emb} {w:World} {g:Value→Value→Option Value} {g':Value→Value→Sem Value} (hg:∀ x x' y y' v,g x y=some v→VR f x x'→VR f y y'→∃ v',(g' x' y').run P w = .ok v' w∧VR f v v') :
 ∀ {r r':List Value} {x x' v:Value},yM g x r=some v→VR f x x'→VRs f r r'→∃ v',(r'.foldlM g' x').run P w = .ok v' w∧VR f v v'
 | [],_,x,x',v,h,hx,.nil=>by cases h;exact ⟨x',by simp,hx⟩
 | y :: r,_,x,x',v,h,hx,.cons _ y' _ r' hy hr=>by
  simp only [yM] at h
  split at h
  ·rename_i z hz
   obtain ⟨z',q1,q2⟩:=hg _ _ _ _ _ hz hx hy
   obtain ⟨v',p1,p2⟩:=XH hg h q2 hr
   exact ⟨v',by simp only [List.foldlM_cons,Sem.run_bind,q1,Result.andThen_ok,p1],p2⟩
  ·cases h
end
end Go.Proofs.Xx
namespace Go.Proofs.Xx
open Go
set_option linter.unusedSimpArgs false
set_option linter.unusedVariables false
section
variable {P:Program}
theorem Jy {f:Emb} {x x':Option Value} {d n:Nat} (h:zA x d=some n) (hx:∀ v,x=some v→∃ v',x'=some v'∧VR f v v') (hn:x=none→x'=none) :
 (x=none∧x'=none∧n=d)∨∃ k,x'=some (.int k (Int.ofNat n)):=by
 unfold zA at h
 split at h
 ·cases h;exact .inl ⟨rfl,hn rfl,rfl⟩
 ·rename_i k m
  cases h
  obtain ⟨v',q1,q2⟩:=hx _ rfl
  cases q2
  exact .inr ⟨_,q1⟩
 ·cases h
theorem run_sliceBound {n y:Nat} {k:IntKind} (h:n≤y) (code:BoundsCode) (w:World):(Instr.sliceBound (.int k (Int.ofNat n)) y code).run P w = .ok n w:=by
 have h1:0≤Int.ofNat n∧Int.ofNat n≤(y:Int):=⟨Int.natCast_nonneg n,Int.ofNat_le.2 h⟩
 simp only [Instr.sliceBound,Sem.run_bind,asIntOf,Sem.run_pure,Result.andThen_ok]
 rw [if_pos h1];rfl
theorem Qr {f:Emb} {lo lo' hi hi':Option Value} {len cap cap' l r:Nat} (b:Bool) (hlo:zA lo 0=some l) (hhi:zA hi len=some r) (hlr:l≤r) (hr:r≤cap')
 (h1:∀ v,lo=some v→∃ v',lo'=some v'∧VR f v v') (h1n:lo=none→lo'=none) (h2:∀ v,hi=some v→∃ v',hi'=some v'∧VR f v v') (h2n:hi=none→hi'=none) (w:World) :
 (Instr.sliceBounds b len cap' lo' hi' none).run P w = .ok (l,r,cap') w:=by
 rcases Jy hhi h2 h2n with ⟨-,rfl,rfl⟩|⟨k,rfl⟩
 ·rcases Jy hlo h1 h1n with ⟨-,rfl,rfl⟩|⟨k',rfl⟩
  ·simp only [Instr.sliceBounds,Sem.run_bind,Sem.run_pure,Result.andThen_ok]
  ·simp only [Instr.sliceBounds,Sem.run_bind,Sem.run_pure,Result.andThen_ok,run_sliceBound hlr]
 ·rcases Jy hlo h1 h1n with ⟨-,rfl,rfl⟩|⟨k',rfl⟩
  ·simp only [Instr.sliceBounds,Sem.run_bind,Sem.run_pure,Result.andThen_ok,run_sliceBound hr]
  ·simp only [Instr.sliceBounds,Sem.run_bind,Sem.run_pure,Result.andThen_ok,run_sliceBound hlr,run_sliceBound hr]
theorem wo (s:ByteArray) (l r:Nat):(⟨((s.data.toList.drop l).take (r - l)).toArray⟩:ByteArray)=s.extract l r:=by
 apply qay
 rw [ByteArray.data_extract,Array.toList_extract,List.extract_eq_take_drop]
def qb7 (f:Emb) (x x':Option Value):Prop:=(∀ v,x=some v→∃ v',x'=some v'∧VR f v v')∧(x=none→x'=none)
theorem XJ {f:Emb} {sz:Nat} {t:Tr Value} {tm:Array Value} (T:TR f sz t tm) {o:Option Operand} {x:Option Value} (h:jr t o=some x):qb7 f x (o.map (Xt tm)):=by
 cases o with
 | none=>cases h;exact ⟨fun v hv=>(by cases hv),fun _=>rfl⟩
 | some o =>
  simp only [jr] at h
  split at h
  ·rename_i v hv
   cases h
   exact ⟨fun u hu=>(by cases hu;exact ⟨_,rfl,qJ T hv⟩),fun q=>(by cases q)⟩
  ·cases h
theorem Gm [Glob] {B:Bs} {f:Emb} {h:AH} {w:World} (r:Rel B f h w) {t:TypeId} {x x' v:Value} {lo lo' hi hi' mx mx':Option Value} (hs:zM P t x lo hi mx h=some v)
 (hx:VR f x x') (hlo:qb7 f lo lo') (hhi:qb7 f hi hi') (hmx:qb7 f mx mx'):∃ v',(Instr.sliceAt t x' lo' hi' mx').run P w = .ok v' w∧VR f v v':=by
 unfold zM at hs
 split at hs
 ·rename_i s hu
  cases hx
  have hm:=hmx.2 rfl;subst hm
  split at hs
  ·rename_i l rr hl hr
   split at hs
   ·rename_i hc
    cases hs
    simp only [Bool.and_eq_true] at hc
    have c1:=Nat.le_of_ble_eq_true hc.1
    have c2:=Nat.le_of_ble_eq_true hc.2
    refine ⟨_,?_,.string _⟩
    rw [wo]
    have hsz:=Qy s
    rw [← hsz] at hr c2
    have:=Qr (P:=P) (cap:=s.size) (cap':=s.size) false hl hr c1 c2 hlo.1 hlo.2 hhi.1 hhi.2 w
    simp only [Instr.sliceAt,Sem.run_bind,run_underlying hu,Result.andThen_ok,Instr.slice,Option.isSome_none,Bool.false_eq_true,if_false,Sem.run_pure,this]
   ·cases hs
  ·cases hs
 ·rename_i e hu
  cases hx
  have hm:=hmx.2 rfl;subst hm
  split at hs
  ·rename_i n hl hr hn
   cases hs
   refine ⟨_,?_,.nilSlice⟩
   have:=Qr (P:=P) (cap:=0) (cap':=0) true hl hr (Nat.le_refl _) (Nat.le_refl _) hlo.1 hlo.2 hhi.1 hhi.2 w
   simp only [Instr.sliceAt,Sem.run_bind,run_underlying hu,Result.andThen_ok,Instr.slice,this,zJ hn]
   simp
  ·cases hs
 ·rename_i e b o len cap hu
  obtain ⟨L,o',hL,rfl,hlc,ho⟩:=hx.Q5
  have hm:=hmx.2 rfl;subst hm
  split at hs
  ·rename_i c eb slk ro n hg hn
   split at hs
   ·rename_i l rr hl hr
    split at hs
    ·rename_i hc
     simp only [Bool.and_eq_true] at hc
     have c1:=Nat.le_of_ble_eq_true hc.1
     have c2:=Nat.le_of_ble_eq_true hc.2
     have hrun:=Qr (P:=P) (cap:=cap) (cap':=cap+L.slack) true hl hr c1 (by omega) hlo.1 hlo.2 hhi.1 hhi.2 w
     have hO:=r.obj b L _ hL hg
     obtain ⟨cc,fr,-,-,-,h4,-,-⟩:=hO
     split at hs
     ·rename_i hq
      cases hs
      simp only [Bool.and_eq_true,Option.isNone_iff_eq_none] at hq
      have q2:=Nat.eq_of_beq_eq_true hq.2
      obtain ⟨s0,-⟩:=h4 hq.1
      refine ⟨.slice (some o') (rr - l) (cap - l+L.slack),?_,.slice b o o' _ _ L hL (by omega) ?_⟩
      ·simp only [Instr.sliceAt,Sem.run_bind,run_underlying hu,Result.andThen_ok,Instr.slice,hrun,zJ hn,Sem.run_pure]
       rw [if_pos (by omega)]
       congr 2;omega
      ·exact ho.imp id fun ⟨a1,a2⟩=>⟨by omega,a2⟩
     ·rename_i hq
      cases hs
      by_cases hml:cap+L.slack=l
      ·refine ⟨.slice (some o') (rr - l) (cap - l+L.slack),?_,.slice b (o+l*n) o' _ _ L hL (by omega) (.inr ⟨by omega,by omega⟩)⟩
       simp only [Instr.sliceAt,Sem.run_bind,run_underlying hu,Result.andThen_ok,Instr.slice,hrun,zJ hn,Sem.run_pure]
       rw [if_pos hml]
       congr 2;omega
      ·have ho':o'=⟨L.blk,L.sh+o,none⟩:=by
        rcases ho with ho|⟨a1,a2⟩
        ·exact ho
        ·exfalso;omega
       subst ho'
       refine ⟨.slice (some ⟨L.blk,L.sh+o+l*n,none⟩) (rr - l) (cap - l+L.slack),?_,.slice b (o+l*n) _ _ _ L hL (by omega) (.inl (by rw [Nat.add_assoc]))⟩
       simp only [Instr.sliceAt,Sem.run_bind,run_underlying hu,Result.andThen_ok,Instr.slice,hrun,zJ hn,Sem.run_pure]
       rw [if_neg hml]
       simp only [Option.map_some,jR]
       congr 2;omega
    ·cases hs
   ·cases hs
  ·cases hs
 ·rename_i m e b o hu
  obtain ⟨L,hL,rfl⟩:=hx.zZ
  have hm:=hmx.2 rfl;subst hm
  split at hs
  ·rename_i c eb ro n hg hn
   split at hs
   ·rename_i l rr hl hr
    split at hs
    ·rename_i hc
     simp only [Bool.and_eq_true] at hc
     have c1:=Nat.le_of_ble_eq_true hc.1
     have c2:=Nat.le_of_ble_eq_true hc.2
     have hrun:=Qr (P:=P) (cap:=m) (cap':=m) false hl hr c1 c2 hlo.1 hlo.2 hhi.1 hhi.2 w
     have hO:=r.obj b L _ hL hg
     obtain ⟨cc,fr,-,-,-,h4,-,-⟩:=hO
     obtain ⟨s0,-⟩:=h4 rfl
     split at hs
     ·rename_i hq
      cases hs
      have q2:=Nat.eq_of_beq_eq_true hq
      refine ⟨.slice (some ⟨L.blk,L.sh+o,none⟩) (rr - l) (m - l+L.slack),?_,.slice b o _ _ _ L hL (by omega) (.inl rfl)⟩
      simp only [Instr.sliceAt,Sem.run_bind,run_underlying hu,Result.andThen_ok,Instr.sureAddr,Sem.run_pure,hrun,zJ hn]
      rw [if_pos q2.symm]
      congr 2;omega
     ·rename_i hq
      cases hs
      have q2:¬ m=l:=fun q=>by subst q;simp at hq
      refine ⟨.slice (some ⟨L.blk,L.sh+(o+l*n),none⟩) (rr - l) (m - l+L.slack),?_,.slice b _ _ _ _ L hL (by omega) (.inl rfl)⟩
      simp only [Instr.sliceAt,Sem.run_bind,run_underlying hu,Result.andThen_ok,Instr.sureAddr,Sem.run_pure,hrun,zJ hn]
      rw [if_neg q2]
      simp only [jR,Nat.add_assoc]
      congr 2;omega
    ·cases hs
   ·cases hs
  ·cases hs
 ·cases hs
end
end Go.Proofs.Xx
namespace Go.Proofs.Xx
open Go
set_option linter.unusedSimpArgs false
set_option linter.unusedVariables false
section
variable {P:Program}
theorem kF (newLen:Nat):∀ (rounds c:Nat),c≤newLen+(newLen+768) / 4→Builtin.growBy newLen rounds c≤newLen+(newLen+768) / 4
 | 0,c,h=>h
 | rounds+1,c,h=>by
  unfold Builtin.growBy
  split
  ·exact h
  ·exact kF newLen rounds _ (by omega)
theorem nextslicecap_le {need cap:Nat} (h:cap<need):Builtin.nextslicecap need cap≤2*need+192:=by
 unfold Builtin.nextslicecap
 split
 ·omega
 ·split
  ·omega
  ·have:=kF need 4 cap (by omega)
   omega
theorem wI {w w2:World} (h:w2.heap=w.heap) (a:Addr):w2.cell? a=w.cell? a:=by unfold World.cell?;rw [h]
theorem wu [Glob] {B:Bs} {f:Emb} {h:AH} {w:World} (r:Rel B f h w) {size n:Nat} {x x':Value} {new:List Value} (hs:Xc size x h=some (n,new)) (hx:VR f x x') :
 ∃ new',VRs f new new'∧(∀ w2:World,(Builtin.lenOf x').run P w2 = .ok n w2)∧∀ w2:World,w2.heap=w.heap→(Builtin.firstCells size n x').run P w2 = .ok new'.toArray w2:=by
 unfold Xc at hs
 split at hs
 ·cases hs;cases hx
  exact ⟨[],.nil,fun _=>rfl,fun _ _=>rfl⟩
 ·rename_i b o m cap
  obtain ⟨L,o',hL,rfl,hlc,ho⟩:=hx.Q5
  split at hs
  ·rename_i c e sl ro hg
   split at hs
   ·rename_i xs hxs
    cases hs
    obtain ⟨xs',q1,q2,q3⟩:=(r.obj b L _ hL hg).seg hxs
    refine ⟨xs',q1,fun _=>rfl,fun w2 hw=>?_⟩
    by_cases hn:n=0
    ·subst hn
     have:xs'=[]:=List.length_eq_zero_iff.1 (by omega)
     subst this
     simp [Builtin.firstCells,loadCells,loadCellsFrom]
    ·have ho':o'=⟨L.blk,L.sh+o,none⟩:=by
      rcases ho with ho|⟨h0,-⟩
      ·exact ho
      ·omega
     subst ho'
     simp only [Builtin.firstCells]
     exact Qb q2 fun j v e=>by rw [wI hw];exact q3 j v e
   ·cases hs
  ·cases hs
 ·rename_i s
  cases hs;cases hx
  refine ⟨_,VRs.plain f _ (List.all_eq_true.2 fun v hv=>by obtain ⟨b,-,rfl⟩:=List.mem_map.1 hv;rfl),fun _=>?_,fun w2 _=>?_⟩
  ·simp only [Builtin.lenOf,Sem.run_pure,Qy]
  ·simp only [Builtin.firstCells,Sem.run_pure]
   congr 1
   apply Array.ext'
   rw [← Qy,Array.toList_map,ByteArray.data_extract,Array.toList_extract,List.extract_eq_take_drop,List.toList_toArray]
   congr 1
   rw [List.drop_zero,Nat.sub_zero,Qy,List.take_of_length_le (Nat.le_refl _)]
 ·cases hs
theorem run_append_room {ts tx:TypeId} {e:TypeId} {d:TypeDesc} {ty:TypeId} {size n len cap:Nat} {base:Option Addr} {x':Value} {new':List Value} {w:World}
 (hu:P.underlying ts=some (.slice e)) (hd:∀ k,d≠.int k) (hx:P.underlying tx=some d) (hsz:(sizeOf e).run P w = .ok size w)
 (hl:(Builtin.lenOf x').run P w = .ok n w) (hf:(Builtin.firstCells size n x').run P w = .ok new'.toArray w) (hc:len+n≤cap) :
 (Builtin.append_ #[ts,tx] ty #[.slice base len cap,x']).run P w =
  (((match base with|some a=>storeCells (a.add (len*size)) new'|none=>pure ()):Sem Unit).run P w).andThen fun _ w'=>.ok (.slice base (len+n) cap) w':=by
 have e1:(#[ts,tx]:Array TypeId)[0]? = some ts:=rfl
 have e2:(#[ts,tx]:Array TypeId)[1]? = some tx:=rfl
 have e3:(#[Value.slice base len cap,x']:Array Value)[0]? = some (.slice base len cap):=rfl
 have e4:(#[Value.slice base len cap,x']:Array Value)[1]? = some x':=rfl
 cases d
 case int k=>exact absurd rfl (hd k)
 all_goals
  simp only [Builtin.append_,e1,e2,e3,e4,Sem.run_bind,run_underlying hu,run_underlying hx,Result.andThen_ok,Sem.run_pure,hsz,Bool.false_eq_true,if_false,Bool.not_false,if_true,hl,hf]
  rw [if_pos hc]
  simp only [Sem.run_bind,hf,Result.andThen_ok]
  cases base with
  | none=>rfl
  | some a=>simp only [Sem.run_bind];rfl
theorem run_append_grow {ts tx:TypeId} {e:TypeId} {d:TypeDesc} {ty:TypeId} {z:List Value} {by_ n len cap:Nat} {base:Option Addr} {x':Value} {old' new':List Value} {w:World}
 (hu:P.underlying ts=some (.slice e)) (hd:∀ k,d≠.int k) (hx:P.underlying tx=some d) (hz:qW P e=some z) (hb:Qm P e=some (by_+1))
 (hl:∀ w2:World,(Builtin.lenOf x').run P w2 = .ok n w2) (hf:∀ w2:World,w2.heap=w.heap→(Builtin.firstCells z.length n x').run P w2 = .ok new'.toArray w2)
 (ho:∀ w2:World,w2.heap=w.heap→(Builtin.firstCells z.length len (.slice base len cap)).run P w2 = .ok old'.toArray w2)
 (hc:cap<len+n) (hsm:(len+n)*(by_+1)≤1099511627776) :
 ∃ newCap w',len+n≤newCap∧(Builtin.append_ #[ts,tx] ty #[.slice base len cap,x']).run P w = .ok (.slice (some ⟨w.heap.size,0,none⟩) (len+n) newCap) w' ∧
  Pushed w w' (.cells (old' ++ (new' ++ zh z (newCap - (len+n)))).toArray e):=by
 obtain ⟨i,zv,hi,hzv,hzl,hsz,hz0,hpl⟩:=jT hz
 have e1:(#[ts,tx]:Array TypeId)[0]? = some ts:=rfl
 have e2:(#[ts,tx]:Array TypeId)[1]? = some tx:=rfl
 have e3:(#[Value.slice base len cap,x']:Array Value)[0]? = some (.slice base len cap):=rfl
 have e4:(#[Value.slice base len cap,x']:Array Value)[1]? = some x':=rfl
 have hsr:∀ w:World,(sizeOf e).run P w = .ok z.length w:=fun w=>by simp [sizeOf,typeInfo,hi,hsz]
 have hzrun:∀ w:World,(zeroValue e).run P w = .ok zv w:=fun w=>by simp [zeroValue,typeInfo,hi,hzv]
 have hti:∀ w:World,(typeInfo e).run P w = .ok i w:=fun w=>by simp [typeInfo,hi]
 have hby:i.bytes=by_+1:=by unfold Qm at hb;rw [hi] at hb;simpa using hb
 have hns:¬ (Builtin.nextslicecap (len+n) cap*i.bytes > 2 ^ 48):=by
  have h1:=nextslicecap_le hc
  have h2:Builtin.nextslicecap (len+n) cap*(by_+1)≤(2*(len+n)+192)*(by_+1):=Nat.mul_le_mul_right _ h1
  have h3:(2*(len+n)+192)*(by_+1)=2*((len+n)*(by_+1))+192*(by_+1):=by rw [Nat.add_mul,Nat.mul_assoc]
  have h4:1*(by_+1)≤(len+n)*(by_+1):=Nat.mul_le_mul_right _ (by omega)
  have h5:(2:Nat) ^ 48=281474976710656:=by decide
  rw [hby,h5];omega
 have hnc:len+n≤Question.cut (.appendCap (len+n) cap e) (w.tape w.drawn (.appendCap (len+n) cap e)):=Nat.le_add_right _ _
 refine ⟨Question.cut (.appendCap (len+n) cap e) (w.tape w.drawn (.appendCap (len+n) cap e)),{ heap:=w.heap.push (.cells (old'.toArray ++ new'.toArray ++ Builtin.zeroCells zv.cells (Question.cut (.appendCap (len+n) cap e) (w.tape w.drawn (.appendCap (len+n) cap e)) - (len+n))) e),tape:=w.tape,drawn:=w.drawn+1,os:=w.os,output:=w.output },hnc,?_,?_⟩
 ·have hzz:=fun k=>QY hzl hz0 k
  rw [hby] at hns
  cases d
  case int k=>exact absurd rfl (hd k)
  all_goals
   simp only [Builtin.append_,e1,e2,e3,e4,Sem.run_bind,run_underlying hu,run_underlying hx,Result.andThen_ok,Sem.run_pure,hsr,Bool.false_eq_true,if_false,Bool.not_false,if_true,hl]
   rw [if_neg (by omega)]
   simp only [Sem.run_bind,hti,Result.andThen_ok,hby]
   rw [if_neg (by rintro ⟨-,q⟩;simp at q)]
   simp only [Sem.run_bind,Sem.run_pure,Result.andThen_ok,if_neg hns,hti,hby,run_choose,Question.forced,Bool.false_eq_true,if_false,run_askRoom,ho,hf,hzrun,newRow,run_newObj]
 ·refine ⟨?_,rfl,rfl,rfl⟩
  have hzz:=QY hzl hz0 (Question.cut (.appendCap (len+n) cap e) (w.tape w.drawn (.appendCap (len+n) cap e)) - (len+n))
  have hlz:zv.cells.size=z.length:=by rw [← hzl,Array.length_toList]
  have:Builtin.zeroCells zv.cells (Question.cut (.appendCap (len+n) cap e) (w.tape w.drawn (.appendCap (len+n) cap e)) - (len+n))=(zh z (Question.cut (.appendCap (len+n) cap e) (w.tape w.drawn (.appendCap (len+n) cap e)) - (len+n))).toArray:=by
   unfold Builtin.zeroCells
   rw [← hzz,hlz]
  simp only [this,List.append_toArray,List.append_assoc]
theorem qfg {d:TypeDesc} (h:∀ k,d = .int k→False):∀ k,d≠.int k:=fun k q=>h k q
theorem ww [Glob] {B:Bs} {f:Emb} {h h':AH} {w:World} (r:Rel B f h w) {types:List TypeId} {ty:TypeId} {s s' x x' v:Value}
 (ha:jF P types s x h=some (v,h')) (hs:VR f s s') (hx:VR f x x') :
 ∃ f' v' w',(Builtin.append_ types.toArray ty #[s',x']).run P w = .ok v' w'∧Rel B f' h' w'∧Turn f h w f' h' w'∧VR f' v v':=by
 unfold jF at ha
 split at ha
 rotate_left
 ·cases ha
 rename_i ts tx
 split at ha
 ·cases ha
 rotate_left
 ·cases ha
 rename_i e d hint he hd
 have hu:=ZH he
 have hdi:∀ k,d≠.int k:=hint
 split at ha
 rotate_left
 ·cases ha
 rename_i z by_ hz hb
 obtain ⟨i,zv,hi,hzv,hzl,hsz,hz0,hpl⟩:=jT hz
 have hsr:(sizeOf e).run P w = .ok z.length w:=by simp [sizeOf,typeInfo,hi,hsz]
 have hzr:VRs f z z:=by rw [← hzl];exact (VR.plain f zv hpl).cells
 split at ha
 rotate_left
 ·cases ha
 rename_i n new hsrc
 split at ha
 rotate_left
 ·cases ha
 rename_i hcond
 simp only [Bool.and_eq_true] at hcond
 have hsm1:=Nat.le_of_ble_eq_true hcond.1
 have hone:=hcond.2.1
 have hnl:new.length=n*z.length:=Nat.eq_of_beq_eq_true hcond.2.2
 obtain ⟨new',hn1,hn2,hn3⟩:=wu r hsrc hx
 split at ha
 ·
  cases hs
  split at ha
  ·cases ha
   refine ⟨f,.slice none 0 0,w,?_,r,Turn.refl _ _ _,.nilSlice⟩
   rw [show (List.toArray [ts,tx])=#[ts,tx] from rfl,run_append_room hu hdi hd hsr (hn2 w) (hn3 w rfl) (by omega)]
   rfl
  ·rename_i hn0
   cases ha
   have hn0:n≠0:=fun q=>hn0 (by subst q;rfl)
   obtain ⟨nc,w',q1,q2,q3⟩:=run_append_grow (old':=[]) (ty:=ty) (base:=none) (len:=0) (cap:=0) hu hdi hd hz hb hn2 hn3 (fun _ _=>rfl) (by omega)
    (by rw [Nat.zero_add];exact Nat.le_trans (Nat.mul_le_mul_right _ (by omega)) hsm1)
   rw [Nat.zero_add] at q1 q2 q3
   have hle:=r.JX ⟨w.heap.size,0,nc - n⟩
   obtain ⟨r1,r2⟩:=r.add (s:=nc - n) (o:=.cells new e (some z.length) false) q3 (by
    refine ⟨_,(0,0),q3.new,?_,fun j u hj=>?_,(fun q=>by cases q),fun k hk=>?_,(fun _ j q=>by simp at q)⟩
    ·simp only [List.nil_append,List.size_toArray,List.length_append,hn1.length];omega
    ·obtain ⟨u',p1,p2⟩:=(hn1.mono hle).get j u hj
     refine ⟨u',?_,p2⟩
     have hjl:j<new'.length:=by rw [hn1.length];exact (List.getElem?_eq_some_iff.1 hj).1
     simp only [Nat.zero_add,List.nil_append,List.getElem?_toArray]
     rw [List.getElem?_append_left hjl];exact p1
    ·cases hk
     simp only [List.nil_append,List.size_toArray,List.length_append,hn1.length,Qd];omega)
   refine ⟨_,_,w',q2,r1,r2,?_⟩
   have:=VR.slice (f:=f.put h.next ⟨w.heap.size,0,nc - n⟩) h.next 0 ⟨w.heap.size,0,none⟩ n n ⟨w.heap.size,0,nc - n⟩ (Emb.qZ _ _ _) (Nat.le_refl _) (.inl rfl)
   rw [show n+(nc - n)=nc by omega] at this
   exact this
 ·rename_i b o len cap
  obtain ⟨L,o',hL,rfl,hlc,ho⟩:=hs.Q5
  simp only at ha
  split at ha
  rotate_left
  ·cases ha
  rename_i c eb slk ro hg
  have hO:=r.obj b L _ hL hg
  split at ha
  ·rename_i hroom
   have hroom:=Nat.le_of_ble_eq_true hroom
   split at ha
   ·cases ha
    refine ⟨f,.slice (some o') len (cap+L.slack),w,?_,r,Turn.refl _ _ _,.slice b o o' len cap L hL hlc ho⟩
    have hnil:new'=[]:=List.length_eq_zero_iff.1 (by rw [hn1.length,hnl];omega)
    rw [show (List.toArray [ts,tx])=#[ts,tx] from rfl,run_append_room hu hdi hd hsr (hn2 w) (hn3 w rfl) (by omega),hnil]
    rfl
   ·rename_i hn0
    have hn0:n≠0:=fun q=>hn0 (by subst q;rfl)
    split at ha
    ·cases ha
    ·split at ha
     ·rename_i h2 hput
      cases ha
      obtain ⟨w',q1,q2,q3⟩:=Z9 (P:=P) r hL hg hput hn1
      have ho':o'=⟨L.blk,L.sh+o,none⟩:=by
       rcases ho with ho|⟨h0,-⟩
       ·exact ho
       ·omega
      subst ho'
      refine ⟨f,.slice (some ⟨L.blk,L.sh+o,none⟩) (len+n) (cap+L.slack),w',?_,q2,q3,.slice b o _ _ cap L hL hroom (.inl rfl)⟩
      rw [show (List.toArray [ts,tx])=#[ts,tx] from rfl,run_append_room hu hdi hd hsr (hn2 w) (hn3 w rfl) (by omega)]
      simp only [jR,Nat.add_assoc,q1,Result.andThen_ok]
     ·cases ha
  ·rename_i hroom
   have hroom:cap<len+n:=by
    rcases Nat.lt_or_ge cap (len+n) with h|h
    ·exact h
    ·rw [Nat.ble_eq_true_of_le h] at hroom;cases hroom
   split at ha
   rotate_left
   ·cases ha
   rename_i old hold hsm
   have hsm:=Nat.le_of_ble_eq_true hsm
   obtain ⟨old',ho1,ho2,ho3⟩:=hO.seg hold
   have hn0:n≠0:=by omega
   have hread:∀ w2:World,w2.heap=w.heap→(Builtin.firstCells z.length len (.slice (some o') len (cap+L.slack))).run P w2 = .ok old'.toArray w2:=by
    intro w2 hw2
    by_cases hl0:len=0
    ·subst hl0
     have:old'=[]:=List.length_eq_zero_iff.1 (by omega)
     subst this
     simp [Builtin.firstCells,loadCells,loadCellsFrom]
    ·have ho':o'=⟨L.blk,L.sh+o,none⟩:=by
      rcases ho with ho|⟨h0,-⟩
      ·exact ho
      ·omega
     subst ho'
     simp only [Builtin.firstCells]
     exact Qb ho2 fun j v e=>by rw [wI hw2];exact ho3 j v e
   have grow:∀ (h1:AH),Rel B f h1 w→Turn f h w f h1 w→h1.next=h.next→cap+L.slack<len+n →
    ∃ f' v' w',(Builtin.append_ #[ts,tx] ty #[.slice (some o') len (cap+L.slack),x']).run P w = .ok v' w'∧Rel B f' (h1.add (.cells (old ++ new) e (some z.length) false)) w' ∧
     Turn f h w f' (h1.add (.cells (old ++ new) e (some z.length) false)) w'∧VR f' (.slice (some ⟨h.next,0,none⟩) (len+n) (len+n)) v':=by
    intro h1 r1 t1 hnx hgr
    obtain ⟨nc,w',q1,q2,q3⟩:=run_append_grow (ty:=ty) (base:=some o') hu hdi hd hz hb hn2 hn3 hread hgr hsm
    have hle:=r1.JX ⟨w.heap.size,0,nc - (len+n)⟩
    have hall:=(ho1.append hn1).mono hle
    have hll:(old ++ new).length=(len+n)*z.length:=by
     rw [List.length_append,hnl,Nat.add_mul]
     have h9:=(JE hold).2.1
     omega
    obtain ⟨r2,r3⟩:=r1.add (s:=nc - (len+n)) (o:=.cells (old ++ new) e (some z.length) false) q3 (by
     refine ⟨_,(0,0),q3.new,?_,fun j u hj=>?_,(fun q=>by cases q),fun k hk=>?_,(fun _ j q=>by simp at q)⟩
     ·have h8:=hall.length
      simp only [List.length_append] at h8
      simp only [List.size_toArray,List.length_append];omega
     ·obtain ⟨u',p1,p2⟩:=hall.get j u hj
      refine ⟨u',?_,p2⟩
      have hjl:j<(old' ++ new').length:=(List.getElem?_eq_some_iff.1 p1).1
      simp only [Nat.zero_add,List.getElem?_toArray]
      rw [← List.append_assoc,List.getElem?_append_left hjl];exact p1
     ·cases hk
      have h8:=hall.length
      simp only [List.length_append] at h8
      simp only [List.size_toArray,List.length_append,Qd];omega)
    refine ⟨_,_,w',q2,r2,t1.trans r3 r.dom,?_⟩
    have:=VR.slice (f:=f.put h1.next ⟨w.heap.size,0,nc - (len+n)⟩) h1.next 0 ⟨w.heap.size,0,none⟩ (len+n) (len+n) ⟨w.heap.size,0,nc - (len+n)⟩ (Emb.qZ _ _ _) (Nat.le_refl _) (.inl rfl)
    rw [show len+n+(nc - (len+n))=nc by omega] at this
    rw [← hnx]
    exact this
   split at ha
   ·cases ha
    obtain ⟨cc,fr,-,-,-,h4,-,-⟩:=hO
    obtain ⟨s0,-⟩:=h4 rfl
    rw [show (List.toArray [ts,tx])=#[ts,tx] from rfl]
    exact grow h r (Turn.refl _ _ _) rfl (by omega)
   ·rename_i k
    split at ha
    rotate_left
    ·cases ha
    rename_i hk
    cases ha
    simp only [Bool.and_eq_true] at hk
    obtain rfl:=Nat.eq_of_beq_eq_true hk.1.1
    obtain rfl:=Nat.eq_of_beq_eq_true hk.1.2
    have hbound:=Nat.le_of_ble_eq_true hk.2
    obtain ⟨rk,tk⟩:=r.kill hL
    rw [show (List.toArray [ts,tx])=#[ts,tx] from rfl]
    by_cases hgr:cap+L.slack<len+n
    ·exact grow _ rk tk rfl hgr
    ·
     obtain ⟨cc,fr,h1,h2,h3,h4,h5,h6⟩:=hO
     have h5:=h5 _ rfl
     have ho':o'=⟨L.blk,L.sh+o,none⟩:=by
      rcases ho with ho|⟨h0,h1⟩
      ·exact ho
      ·omega
     subst ho'
     have hm1:(len+n)*z.length≤(cap+L.slack)*z.length:=Nat.mul_le_mul_right _ (by omega)
     rw [Nat.add_mul,Nat.add_mul] at hm1
     have hnl':new'.length=n*z.length:=by rw [hn1.length,hnl]
     obtain ⟨w',q1,q2⟩:=Qw (P:=P) (o:=L.sh+o+len*z.length) new' 0 cc w h1 (by rw [hn1.one?];exact hone) (by omega) (h6 rfl)
     rw [Nat.add_zero] at q2
     have hlen:L.sh+o+len*z.length+new'.length≤cc.toList.length:=by
      have e1:cc.toList.length=cc.size:=Array.length_toList
      omega
     have hB:=r.own b L _ hL hg rfl
     have hle:=rk.JX ⟨L.blk,L.sh+o,cap+L.slack - (len+n)⟩
     obtain ⟨hx1,hx2,hx3⟩:=JE hold
     obtain ⟨r2,r3⟩:=rk.view (sh:=L.sh+o) (s:=cap+L.slack - (len+n)) (o:=.cells (old ++ new) eb (some z.length) false) hL (Qs _ _) (fun b' L' p e1 e2 e3=>by
      rw [AH.get_put] at e2
      by_cases hbb:b'=b
      ·rw [if_pos hbb] at e2;cases e2;cases e3
      ·rw [if_neg hbb] at e2
       exact fun q=>hbb (r.inj b' L' p b L _ e1 e2 hL hg q e3 rfl)) hB q2 (by
      refine ⟨_,fr,q2.here,?_,fun j u hj=>?_,(fun q=>by cases q),fun k hk=>?_,h6⟩
      ·simp only [List.size_toArray,ji _ _ _ hlen,Array.length_toList,List.length_append,hx2,hnl];omega
      ·simp only [List.getElem?_toArray,Qv _ _ _ hlen]
       rw [List.getElem?_append,hx2] at hj
       by_cases hj1:j<len*z.length
       ·rw [if_pos hj1,hx1] at hj
        rw [if_pos (by omega),Array.getElem?_toList]
        rw [List.getElem?_take,if_pos hj1,List.getElem?_drop] at hj
        obtain ⟨u',p1,p2⟩:=h3 _ _ hj
        exact ⟨u',by rw [Nat.add_assoc];exact p1,p2.mono hle⟩
       ·rw [if_neg hj1] at hj
        have hj2:j - len*z.length<new.length:=(List.getElem?_eq_some_iff.1 hj).1
        rw [if_neg (by omega),if_pos (by omega)]
        obtain ⟨u',p1,p2⟩:=(hn1.mono hle).get _ _ hj
        exact ⟨u',by rw [show L.sh+o+j - (L.sh+o+len*z.length)=j - len*z.length by omega];exact p1,p2⟩
      ·cases hk
       have hm2:(cap+L.slack - (len+n))*z.length+(len+n)*z.length=(cap+L.slack)*z.length:=by rw [← Nat.add_mul];congr 1;omega
       rw [Nat.add_mul,Nat.add_mul] at hm2
       simp only [List.size_toArray,ji _ _ _ hlen,Array.length_toList,List.length_append,hx2,hnl];omega)
     refine ⟨_,.slice (some ⟨L.blk,L.sh+o,none⟩) (len+n) (cap+L.slack),w',?_,r2,tk.trans r3 r.dom,?_⟩
     ·rw [run_append_room hu hdi hd hsr (hn2 w) (hn3 w rfl) (by omega)]
      simp only [jR,q1,Result.andThen_ok]
     ·have:=VR.slice (f:=f.put (h.put b .dead).next ⟨L.blk,L.sh+o,cap+L.slack - (len+n)⟩) (h.put b .dead).next 0 ⟨L.blk,L.sh+o,none⟩ (len+n) (len+n) ⟨L.blk,L.sh+o,cap+L.slack - (len+n)⟩ (Emb.qZ _ _ _) (Nat.le_refl _) (.inl rfl)
      rw [show len+n+(cap+L.slack - (len+n))=cap+L.slack by omega] at this
      exact this
 ·cases ha
end
end Go.Proofs.Xx
namespace Go.Proofs.Xx
open Go
set_option linter.unusedSimpArgs false
set_option linter.unusedVariables false
section
variable {P:Program}
theorem Gu [Glob] {B:Bs} {f:Emb} {h h':AH} {w:World} (r:Rel B f h w) {t ty:TypeId} {ts:List TypeId} {x x':Value} {rs:List Value} (hc:y7 P t x h=some h') (hx:VR f x x') :
 ∃ w',(Builtin.clear_ (t :: ts).toArray ty (x' :: rs).toArray).run P w = .ok (.tuple #[]) w'∧Rel B f h' w'∧Turn f h w f h' w':=by
 have e1:((t :: ts).toArray)[0]? = some t:=by simp
 have e2:((x' :: rs).toArray)[0]? = some x':=by simp
 unfold y7 at hc
 split at hc
 ·rename_i e hu
  cases hc;cases hx
  refine ⟨w,?_,r,Turn.refl _ _ _⟩
  simp only [Builtin.clear_,e1,e2,Sem.run_bind,run_underlying hu,Result.andThen_ok]
  rfl
 ·rename_i e b o n cap hu
  obtain ⟨L,o',hL,rfl,hlc,ho⟩:=hx.Q5
  split at hc
  ·cases hc
   refine ⟨w,?_,r,Turn.refl _ _ _⟩
   simp only [Builtin.clear_,e1,e2,Sem.run_bind,run_underlying hu,Result.andThen_ok]
   rfl
  ·rename_i hn0
   have hn0:n≠0:=fun q=>hn0 (by subst q;rfl)
   split at hc
   ·rename_i z c eb slk hz hg
    obtain ⟨i,zv,hi,hzv,hzl,hsz,hz0,hpl⟩:=jT hz
    have hzr:VRs f z z:=by rw [← hzl];exact (VR.plain f zv hpl).cells
    obtain ⟨w',q1,q2,q3⟩:=Z9 (P:=P) r hL hg hc (hzr.zh n)
    have ho':o'=⟨L.blk,L.sh+o,none⟩:=by
     rcases ho with ho|⟨h0,-⟩
     ·exact ho
     ·omega
    subst ho'
    refine ⟨w',?_,q2,q3⟩
    have hzz:Builtin.zeroCells zv.cells n=(zh z n).toArray:=by
     have hlz:zv.cells.size=z.length:=by rw [← hzl,Array.length_toList]
     unfold Builtin.zeroCells
     rw [← QY hzl hz0 n,hlz]
    have hzrun:(zeroValue e).run P w = .ok zv w:=by simp [zeroValue,typeInfo,hi,hzv]
    obtain ⟨m,rfl⟩:∃ m,n=m+1:=⟨n - 1,by omega⟩
    simp only [Builtin.clear_,e1,e2,Sem.run_bind,run_underlying hu,Result.andThen_ok,hzrun,hzz,List.toList_toArray,q1,Sem.run_pure]
   ·cases hc
 ·cases hc
theorem bytesOf?_ints {xs:List Value} {s:List UInt8} (h:bytesOf? xs=some s):∃ ns:List Int,xs=ns.map (Value.int .u8)∧(ns.map fun n=>UInt8.ofNat n.toNat)=s:=by
 induction xs generalizing s with
 | nil=>cases h;exact ⟨[],rfl,rfl⟩
 | cons v r ih =>
  simp only [bytesOf?] at h
  split at h
  ·rename_i b t hb ht
   cases h
   obtain ⟨n,rfl,rfl⟩:=byteOf?_eq hb
   obtain ⟨ns,h1,h2⟩:=ih ht
   exact ⟨n :: ns,by simp [h1],by simp [h2]⟩
  ·cases h
theorem WS [Glob] {B:Bs} {f:Emb} {h:AH} {w:World} (r:Rel B f h w) {s d:TypeId} {x x' v:Value} (hc:jY P s d x h=some v) (hx:VR f x x') :
 ∃ v',(convert s d x').run P w = .ok v' w∧VR f v v':=by
 unfold jY at hc
 split at hc
 ·rename_i e h1 h2
  split at hc
  ·rename_i h3
   cases hc;cases hx
   refine ⟨_,?_,.string _⟩
   simp [convert,run_underlying h1,run_underlying h2,run_underlying h3,Conv.bytesToString]
   rfl
  ·cases hc
 ·rename_i e b o len cap h1 h2
  obtain ⟨L,o',hL,rfl,hlc,ho⟩:=hx.Q5
  split at hc
  ·rename_i h3
   split at hc
   ·rename_i c eb slk ro hg
    split at hc
    ·rename_i xs hxs
     split at hc
     ·rename_i bs hbs
      cases hc
      obtain ⟨xs',q1,q2,q3⟩:=(r.obj b L _ hL hg).seg hxs
      obtain ⟨ns,n1,n2⟩:=bytesOf?_ints hbs
      have hxx:=(bytesOf?_VRs hbs q1).1
      subst hxx
      have hld:(loadCells o' len).run P w = .ok (ns.map (Value.int .u8)).toArray w:=by
       by_cases hl0:len=0
       ·subst hl0
        have:xs'=[]:=List.length_eq_zero_iff.1 (by omega)
        rw [← n1,this]
        simp [loadCells,loadCellsFrom]
       ·have ho':o'=⟨L.blk,L.sh+o,none⟩:=by
         rcases ho with ho|⟨h0,-⟩
         ·exact ho
         ·omega
        subst ho'
        rw [← n1]
        exact Qb q2 q3
      refine ⟨.string ⟨bs.toArray⟩,?_,.string _⟩
      simp only [convert,Sem.run_bind,run_underlying h1,run_underlying h2,run_underlying h3,Result.andThen_ok]
      rw [run_bytesToString w _ len _ ns hld,foldl_push_bytes,n2]
      congr 2
      apply ByteArray.ext
      simp
     ·cases hc
    ·cases hc
   ·cases hc
  ·cases hc
 ·cases hc
theorem VX [Glob] {B:Bs} {f:Emb} {h:AH} {w:World} (r:Rel B f h w) {s d:TypeId} {x x' v:Value} (hc:Qz P s d x h=some v) (hx:VR f x x') :
 ∃ v',(convert s d x').run P w = .ok v' w∧VR f v v':=by
 unfold Qz at hc
 split at hc
 ·rename_i t b o h1 h2
  obtain ⟨L,hL,rfl⟩:=hx.zZ
  split at hc
  ·rename_i c e slk ro n hg hs
   split at hc
   ·rename_i hlt
    cases hc
    obtain ⟨cc,fr,hh,hsz,-⟩:=r.obj b L _ hL hg
    rw [Nat.blt_eq] at hlt
    have hsh:w.shape? L.blk=some (e,cc.size):=by simp [World.shape?,hh]
    refine ⟨_,?_,.pointer b o L hL⟩
    have hseen:(Conv.seenAt ⟨L.blk,L.sh+o,none⟩).run P w = .ok ⟨L.blk,L.sh+o,none⟩ w:=by
     simp [Conv.seenAt,viewAt,Sem.run_bind,run_shape,hsh]
    have hcells:(cellsIn L.blk).run P w = .ok (some cc.size) w:=by
     simp [cellsIn,Sem.run_bind,run_shape,hsh]
    have hno:¬ (cc.size≤L.sh+o):=by omega
    simp only [convert,Sem.run_bind,run_underlying h1,run_underlying h2,Result.andThen_ok,Conv.unsafePointer,hseen,hcells,zJ hs]
    simp [hno]
   ·cases hc
  ·cases hc
 ·rename_i u b o h1 h2
  obtain ⟨L,hL,rfl⟩:=hx.zZ
  split at hc
  ·rename_i c e n hg hs
   split at hc
   ·rename_i hli
    cases hc
    obtain ⟨cc,fr,hh,hsz,-,hx1,-⟩:=r.obj b L _ hL hg
    obtain ⟨-,hx2⟩:=hx1 rfl
    obtain ⟨h3,h4⟩:=hx2 rfl
    have hsh:w.shape? L.blk=some (e,cc.size):=by simp [World.shape?,hh]
    refine ⟨_,?_,.pointer b o L hL⟩
    have hseen:(Conv.seenAt ⟨L.blk,L.sh+o,none⟩).run P w = .ok ⟨L.blk,L.sh+o,none⟩ w:=by
     simp [Conv.seenAt,viewAt,Sem.run_bind,run_shape,hsh]
    have hva:(variablesAt ⟨L.blk,L.sh+o,none⟩ u 1).run P w = .ok true w:=by
     have:L.sh+o=o:=by omega
     simp [variablesAt,Sem.run_bind,run_shape,hsh,this,h4,hli]
    simp only [convert,Sem.run_bind,run_underlying h1,run_underlying h2,Result.andThen_ok,Conv.unsafePointer,hseen,hva,zJ hs]
    simp
   ·cases hc
  ·cases hc
 ·cases hc
theorem VY {f:Emb} {w:World} {ts:Array TypeId} {ty:TypeId} {x x' v:Value} (hc:Xe x=some v) (hx:VR f x x') :
 ∃ v',(Builtin.unsafeSliceData_ ts ty #[x']).run P w = .ok v' w∧VR f v v':=by
 unfold Xe at hc
 split at hc
 ·cases hc;cases hx
  exact ⟨_,Lib.run_unsafeSliceData_nil w ts ty 0 0,.nilPointer⟩
 ·rename_i b o n cap
  cases hc
  obtain ⟨L,o',hL,rfl,hlc,ho⟩:=hx.Q5
  have ho':o'=⟨L.blk,L.sh+o,none⟩:=by
   rcases ho with ho|⟨h0,-⟩
   ·exact ho
   ·omega
  subst ho'
  exact ⟨_,Lib.run_unsafeSliceData_row w ts ty _ _ _ (by omega),.pointer b o L hL⟩
 ·cases hc
theorem qaf {e:TypeId} (hc:P.cellsOf e=1) (count off n:Nat) (hn:off+n≤count):liesAt P P.depth e count off e n=true:=by
 have hd:P.depth=(2*(P.types.size+Made.depth)+1)+1:=rfl
 rw [hd]
 simp only [liesAt,Bool.or_eq_true]
 left
 rw [hd]
 simp [rowAt,hc,hn,sameLayout]
 omega
theorem KT {w:World} {b o n:Nat} {cc:Array Value} {e:TypeId} {fr:Nat×Nat} (hb:w.heap[b]? = some (.cells cc e fr)):∃ fr',Wrote w (w.freeze ⟨b,o,none⟩ n) b (.cells cc e fr'):=by
 obtain ⟨lo,hi⟩:=fr
 unfold World.freeze
 split
 ·exact ⟨(lo,hi),Wrote.same hb⟩
 ·have hlt:b<w.heap.size:=(Array.getElem?_eq_some_iff.1 hb).1
  have hv:w.heap[b] = .cells cc e (lo,hi):=(Array.getElem?_eq_some_iff.1 hb).2
  refine ⟨if lo == hi then (o,o+n) else (min lo o,max hi (o+n)),?_,fun j hj=>?_,?_,rfl,rfl,rfl⟩
  ·rw [Array.getElem?_eq_getElem (by simpa using hlt),Array.getElem_modify]
   simp [hv]
  ·simp [Array.getElem?_modify,Ne.symm hj]
  ·simp
theorem Y2 {w:World}:∀ (xs:List Int) (b o:Nat) (acc:ByteArray),(∀ (j:Nat) x,xs[j]? = some x→w.cell? ⟨b,o+j,none⟩=some (.int .u8 x)) →
 (loadBytes ⟨b,o,none⟩ acc xs.length).run P w = .ok ⟨acc.data ++ (xs.map fun n=>UInt8.ofNat n.toNat).toArray⟩ w
 | [],b,o,acc,_=>by simp [loadBytes]
 | x :: l,b,o,acc,h=>by
  have h0:w.cell? ⟨b,o,none⟩=some (.int .u8 x):=h 0 x rfl
  have ih:=Y2 l b (o+1) (acc.push (UInt8.ofNat x.toNat)) (fun j y hy=>by
   rw [show o+1+j=o+(j+1) by omega]
   exact h (j+1) y (by simpa using hy))
  have hx:x.toNat.toUInt8=UInt8.ofNat x.toNat:=rfl
  simp only [List.length_cons,loadBytes,Sem.run_bind,run_load,h0,Result.andThen,hx,jR]
  rw [ih]
  congr 1
  apply ByteArray.ext
  simp [ByteArray.push]
theorem qeG (ts:Array TypeId) (ty:TypeId) (len:Value):Builtin.unsafeString_ ts ty #[.pointer none,len]=(do
 let n ← asInt len
 let some pt:=ts[0]?|stuck "unsafe.String: no argument types"
 if n<0 then runtimePanic (.error "unsafe.String: len out of range")
 if n > IntKind.i64.max then unsupported (.unsafePointer "String: a length above the largest int")
 if n=0 then pure (.string .empty)
 else runtimePanic (.error "unsafe.String: ptr is nil and len is not zero")):=rfl
theorem qbx (ts:Array TypeId) (ty:TypeId) (a:Addr) (len:Value):Builtin.unsafeString_ ts ty #[.pointer (some a),len]=(do
 let n ← asInt len
 let some pt:=ts[0]?|stuck "unsafe.String: no argument types"
 if n<0 then runtimePanic (.error "unsafe.String: len out of range")
 if n > IntKind.i64.max then unsupported (.unsafePointer "String: a length above the largest int")
 if n=0 then pure (.string .empty)
 else if ← variablesAt a (← elemOf pt) n.toNat then do
  let s ← loadBytes a .empty n.toNat
  freeze a n.toNat
  pure (.string s)
 else unsupported (.unsafePointer "String: not so many bytes at ptr")):=rfl
theorem Yl [Glob] {B:Bs} {f:Emb} {h h':AH} {w:World} (r:Rel B f h w) {types:List TypeId} {ty:TypeId} {p p' n n' v:Value} (hc:Qq P types p n h=some (v,h')) (hp:VR f p p') (hn:VR f n n') :
 ∃ v' w',(Builtin.unsafeString_ types.toArray ty #[p',n']).run P w = .ok v' w'∧Rel B f h' w'∧Turn f h w f h' w'∧VR f v v':=by
 have hmax:IntKind.i64.max=9223372036854775807:=by decide
 unfold Qq at hc
 split at hc
 ·cases hp;cases hn
  split at hc
  rotate_left
  ·cases hc
  rename_i pt rest
  have e1:((pt :: rest).toArray)[0]? = some pt:=by simp
  cases hc
  refine ⟨_,w,?_,r,Turn.refl _ _ _,.string _⟩
  rw [qeG]
  simp only [Sem.run_bind,asInt,asIntOf,Sem.run_pure,Result.andThen_ok,e1,hmax]
  rw [if_neg (by decide),if_neg (by decide),if_pos trivial]
  rfl
 ·rename_i b o kk k
  obtain ⟨L,hL,rfl⟩:=hp.zZ
  cases hn
  split at hc
  rotate_left
  ·cases hc
  rename_i pt rest
  have e1:((pt :: rest).toArray)[0]? = some pt:=by simp
  split at hc
  rotate_left
  ·cases hc
  rename_i e hu
  split at hc
  rotate_left
  ·cases hc
  rename_i c eb slk hg hue hse
  split at hc
  rotate_left
  ·cases hc
  rename_i xs hq hxs
  simp only [Bool.and_eq_true] at hq
  obtain rfl:=Nat.eq_of_beq_eq_true hq.1
  have hk:=Nat.le_of_ble_eq_true hq.2
  split at hc
  rotate_left
  ·cases hc
  rename_i bs hbs
  have hO:=r.obj b L _ hL hg
  obtain ⟨xs',q1,q2,q3⟩:=hO.seg hxs
  obtain ⟨ns,n1,n2⟩:=bytesOf?_ints hbs
  have hxx:=(bytesOf?_VRs hbs q1).1
  subst hxx
  obtain ⟨cc,fr,h1,h2,h3,h4,h5,h6⟩:=hO
  have hnn:¬ ((Int.ofNat k)<0):=by have:=Int.natCast_nonneg k;exact Int.not_lt.2 this
  have hnm:¬ ((Int.ofNat k) > 9223372036854775807):=by
   intro q
   have q:(9223372036854775807:Int)<(k:Int):=q
   omega
  split at hc
  ·cases hc
   refine ⟨_,w,?_,r,Turn.refl _ _ _,.string _⟩
   rw [qbx]
   simp only [Sem.run_bind,asInt,asIntOf,Sem.run_pure,Result.andThen_ok,e1,hmax]
   rw [if_neg (by decide),if_neg (by decide),if_pos (by decide)]
   rfl
  ·rename_i hk0
   have hk0:k≠0:=fun q=>hk0 (by subst q;rfl)
   cases hc
   have hxlen:xs'.length=k:=q2
   have hbl:bs.length=k:=by rw [(bytesOf?_VRs hbs q1).2,q2]
   have hc1:P.cellsOf eb=1:=by
    unfold zH at hse
    unfold Program.cellsOf
    cases hi:P.info? eb with
    | none=>rw [hi] at hse;cases hse
    | some i=>rw [hi] at hse;simp only [Option.some.injEq] at hse;simp [hse]
   have hnsl:ns.length=k:=by rw [← q2,n1,List.length_map]
   have hcells:∀ (j:Nat) x,ns[j]? = some x→w.cell? ⟨L.blk,L.sh+o+j,none⟩=some (.int .u8 x):=by
    intro j x hj
    exact q3 j _ (by rw [n1,List.getElem?_map,hj];rfl)
   have hlb:=Y2 (P:=P) ns L.blk (L.sh+o) .empty hcells
   have hrange:L.sh+o+k≤cc.size:=by
    rcases (JE hxs).2.2 with h|h
    ·omega
    ·omega
   have hlies:=qaf (P:=P) hc1 (cc.size / P.cellsOf eb) (L.sh+o) k (by rw [hc1,Nat.div_one];exact hrange)
   obtain ⟨fr',hwr⟩:=KT (o:=L.sh+o) (n:=k) h1
   obtain ⟨r1,r2⟩:=r.put hL hg rfl hwr (o':=.cells c eb slk true) ⟨cc,fr',hwr.here,h2,h3,(fun q=>⟨(h4 q).1,fun q=>by cases q⟩),h5,fun q=>by cases q⟩ (fun _=>rfl)
   refine ⟨_,_,?_,r1,r2,.string ⟨bs.toArray⟩⟩
   have hkz:¬ (Int.ofNat k=0):=fun q=>hk0 (Int.ofNat.inj q)
   have htn:(Int.ofNat k).toNat=k:=rfl
   rw [hnsl,n2] at hlb
   rw [qbx]
   simp only [Sem.run_bind,asInt,asIntOf,Sem.run_pure,Result.andThen_ok,e1,hmax]
   rw [if_neg hnn,if_neg hnm,if_neg hkz]
   simp only [Sem.run_bind,elemOf,run_underlying hu,Sem.run_pure,Result.andThen_ok,variablesAt,run_program,run_shape,World.shape?,h1,htn,hlies,if_true,hlb,run_freeze]
   congr 2
   apply ByteArray.ext
   simp
 ·cases hc
end
end Go.Proofs.Xx
namespace Go.Proofs.Xx
open Go
set_option linter.unusedSimpArgs false
set_option linter.unusedVariables false
section
variable {P:Program}
def Gz [Glob] (P:Program) (B:Bs) (f:Emb) (h:AH) (w:World) (s:Sem Next):Xo→Prop
 | .val v h'=>∃ f' v' w',s.run P w = .ok (.value v') w'∧Rel B f' h' w'∧Turn f h w f' h' w'∧VR f' v v'
 | .skip h'=>∃ w',s.run P w = .ok .skip w'∧Rel B f h' w'∧Turn f h w f h' w'
 | .call g args=>∃ args':List Value,s.run P w=(callFunc g args'.toArray).run P w∧VRs f args args'
 | .yield l args=>∃ (L:Loc) (args':List Value),f l=some L∧s.run P w=(Instr.yield L.blk args'.toArray).run P w∧VRs f args args'
theorem zD [Glob] {B:Bs} {f:Emb} {h:AH} {w:World} {s:Sem Value} {o:Option Value} {n:Xo} (r:Rel B f h w) (hn:qU o h=some n)
 (hs:∀ v,o=some v→∃ v',s.run P w = .ok v' w∧VR f v v'):Gz P B f h w (do pure (.value (← s))) n:=by
 unfold qU at hn
 split at hn
 ·rename_i v
  cases hn
  obtain ⟨v',q1,q2⟩:=hs v rfl
  exact ⟨f,v',w,by simp only [Sem.run_bind,q1,Result.andThen_ok];rfl,r,Turn.refl _ _ _,q2⟩
 ·cases hn
theorem JW [Glob] {B:Bs} {f:Emb} {h:AH} {w:World} {s:Sem Value} {o:Option (Value×AH)} {n:Xo} (hn:Zf o=some n)
 (hs:∀ v h',o=some (v,h')→∃ f' v' w',s.run P w = .ok v' w'∧Rel B f' h' w'∧Turn f h w f' h' w'∧VR f' v v'):Gz P B f h w (do pure (.value (← s))) n:=by
 unfold Zf at hn
 split at hn
 ·rename_i v h'
  cases hn
  obtain ⟨f',v',w',q1,q2,q3,q4⟩:=hs v h' rfl
  exact ⟨f',v',w',by simp only [Sem.run_bind,q1,Result.andThen_ok];rfl,q2,q3,q4⟩
 ·cases hn
theorem VRs.cons_inv {f:Emb} {v:Value} {r c:List Value} (h:VRs f (v :: r) c):∃ v' r',c=v' :: r'∧VR f v v'∧VRs f r r':=by
 cases h with
 | cons _ v' _ r' hv hr=>exact ⟨v',r',rfl,hv,hr⟩
theorem VRs.QK {f:Emb} {c:List Value} (h:VRs f [] c):c=[]:=by cases h;rfl
theorem y8 [Glob] {B:Bs} {f:Emb} {h:AH} {w:World} (r:Rel B f h w) {b:Builtin} {types:List TypeId} {ty:TypeId} {consts:Array Bool} {args args':List Value} {n:Xo} (hb:jS P b types args h=some n) (ha:VRs f args args') :
 Gz P B f h w (builtin b types.toArray ty consts args'.toArray) n:=by
 unfold jS at hb
 split at hb
 ·rename_i t ts x rest
  obtain ⟨x',r',rfl,hx,hr⟩:=ha.cons_inv
  exact zD r hb fun v hv=>qbq hv hx r'
 ·rename_i s x
  obtain ⟨s',r',rfl,hs,hr⟩:=ha.cons_inv
  obtain ⟨x',r'',rfl,hx,hr'⟩:=hr.cons_inv
  have:=hr'.QK;subst this
  exact JW hb fun v h' hv=>ww r hv hs hx
 ·rename_i x rest
  obtain ⟨x',r',rfl,hx,hr⟩:=ha.cons_inv
  refine zD r hb fun v hv=>?_
  obtain ⟨v',q1,q2⟩:=XH (P:=P) (w:=w) (fun a a' b b' u hu h1 h2=>KI hu h1 h2) hv hx hr
  exact ⟨v',by simpa [Builtin.min_] using q1,q2⟩
 ·rename_i x rest
  obtain ⟨x',r',rfl,hx,hr⟩:=ha.cons_inv
  refine zD r hb fun v hv=>?_
  obtain ⟨v',q1,q2⟩:=XH (P:=P) (w:=w) (fun a a' b b' u hu h1 h2=>vX hu h1 h2) hv hx hr
  exact ⟨v',by simpa [Builtin.max_] using q1,q2⟩
 ·rename_i t ts x rest
  obtain ⟨x',r',rfl,hx,hr⟩:=ha.cons_inv
  split at hb
  ·rename_i h' hc
   cases hb
   obtain ⟨w',q1,q2,q3⟩:=Gu (ts:=ts) (ty:=ty) (rs:=r') r hc hx
   exact ⟨f,.tuple #[],w',by simp only [builtin,Sem.run_bind,q1,Result.andThen_ok];rfl,q2,q3,VR.tuple [] [] .nil⟩
  ·cases hb
 ·rename_i x
  obtain ⟨x',r',rfl,hx,hr⟩:=ha.cons_inv
  have:=hr.QK;subst this
  exact zD r hb fun v hv=>VY hv hx
 ·rename_i p m
  obtain ⟨p',r',rfl,hp,hr⟩:=ha.cons_inv
  obtain ⟨m',r'',rfl,hm,hr'⟩:=hr.cons_inv
  have:=hr'.QK;subst this
  refine JW hb fun v h' hv=>?_
  obtain ⟨v',w',q⟩:=Yl (ty:=ty) r hv hp hm
  exact ⟨f,v',w',q⟩
 ·cases hb
theorem PI {f:Emb} {op:BinOp} {t:TypeId} {x y:Operand} {a a' b b' v:Value} {w:World} (h:QW P op t a b=some v) (ha:VR f a a') (hb:VR f b b'):(eqGuard op t x y a' b').run P w = .ok () w:=by
 unfold QW at h
 split at h
 ·cases ha;cases hb
  unfold eqGuard
  cases op<;>rfl
 ·cases ha;cases hb
  unfold eqGuard
  cases op<;>rfl
 ·cases ha;cases hb
  unfold eqGuard
  cases op<;>rfl
 ·cases hb
  cases ha with
  | nilSlice=>unfold eqGuard;cases op<;>rfl
  | slice=>unfold eqGuard;cases op<;>rfl
 ·cases hb
  cases ha with
  | nilPointer=>unfold eqGuard;cases op<;>rfl
  | pointer=>unfold eqGuard;cases op<;>rfl
 ·cases ha;cases hb
  unfold eqGuard
  cases op<;>rfl
 ·obtain ⟨a',rfl,-⟩:=ha.Ye
  obtain ⟨b',rfl,-⟩:=hb.Ye
  split at h
  ·split at h
   ·rename_i hp
    obtain ⟨fs,f,g,-,-,-,-,-,-,-,-,-,-,-,hg⟩:=PW hp
    exact run_eqGuard_agg w _ _ _ _ _ _ hg
   ·cases h
  ·cases h
 ·cases h
theorem Yf [Glob] {B:Bs} {f:Emb} {h:AH} {w:World} (r:Rel B f h w) {sz:Nat} {t:Tr Value} {tm:Array Value} (T:TR f sz t tm) {o:Oper} {n:Xo} (hop:jI P t h o.op=some n) :
 Gz P B f h w (execOp (Xt tm) o) n:=by
 obtain ⟨dst,op,type,pos,after,guard⟩:=o
 simp only at hop
 unfold execOp
 simp only
 cases op<;>simp only [jI] at hop<;>dsimp only
 case move x =>
  unfold qU at hop
  split at hop
  ·rename_i v hv
   cases hop
   exact ⟨f,_,w,(by first|rfl|(rw [Sem.run_bind];rfl)),r,Turn.refl _ _ _,qJ T hv⟩
  ·cases hop
 case assign x =>
  unfold qU at hop
  split at hop
  ·rename_i v hv
   cases hop
   exact ⟨f,_,w,(by first|rfl|(rw [Sem.run_bind];rfl)),r,Turn.refl _ _ _,qJ T hv⟩
  ·cases hop
 case pick c a b =>
  split at hop
  ·rename_i hc
   have:=qJ T hc
   generalize hq:Xt tm c=c' at this
   cases this
   unfold qU at hop
   split at hop
   ·rename_i v hv
    cases hop
    exact ⟨f,_,w,(by first|rfl|(rw [Sem.run_bind];rfl)),r,Turn.refl _ _ _,qJ T hv⟩
   ·cases hop
  ·rename_i hc
   have:=qJ T hc
   generalize hq:Xt tm c=c' at this
   cases this
   unfold qU at hop
   split at hop
   ·rename_i v hv
    cases hop
    exact ⟨f,_,w,(by first|rfl|(rw [Sem.run_bind];rfl)),r,Turn.refl _ _ _,qJ T hv⟩
   ·cases hop
  ·cases hop
 case alloc e =>
  split at hop
  ·rename_i z hz
   split at hop
   ·rename_i hpl
    cases hop
    obtain ⟨f',w',q1,q2,q3,q4⟩:=Va (P:=P) r e (VR.plain f z hpl)
    refine ⟨f',_,w',?_,q2,q3,q4⟩
    simp only [Instr.alloc,Sem.run_bind,wO hz,Result.andThen_ok,q1,Sem.run_pure]
   ·cases hop
  ·cases hop
 case box e x =>
  split at hop
  ·rename_i v hv
   cases hop
   obtain ⟨f',w',q1,q2,q3,q4⟩:=Va (P:=P) r e (qJ T hv)
   refine ⟨f',_,w',?_,q2,q3,q4⟩
   simp only [Instr.box,Sem.run_bind,Result.andThen_ok,q1,Sem.run_pure]
  ·cases hop
 case build ty ps =>
  split at hop
  ·rename_i vs hvs
   refine zD r hop fun v hv=>?_
   obtain ⟨v',q1,q2⟩:=Gv (w:=w) hv (Zg T hvs)
   refine ⟨v',?_,q2⟩
   rw [← q1]
   congr 2
   apply Array.ext'
   simp
  ·cases hop
 case buildSlice ty m ps =>
  split at hop
  ·rename_i vs hvs
   refine JW hop fun v h' hv=>?_
   obtain ⟨f',v',w',q1,q2⟩:=Vs r hv (Zg T hvs)
   refine ⟨f',v',w',?_,q2⟩
   rw [← q1]
   congr 2
   apply Array.ext'
   simp
  ·cases hop
 case load ty a =>
  split at hop
  ·rename_i v hv
   exact zD r hop fun u hu=>WN r hu (qJ T hv)
  ·cases hop
 case store ty a x =>
  split at hop
  ·rename_i p v hp hv
   split at hop
   ·rename_i h' hh
    cases hop
    obtain ⟨w',q1,q2⟩:=Gl (P:=P) r hh (qJ T hp) (qJ T hv)
    exact ⟨w',by simp only [Sem.run_bind,q1,Result.andThen_ok];rfl,q2⟩
   ·cases hop
  ·cases hop
 case nilCheck x =>
  split at hop
  ·rename_i a hv
   cases hop
   have:=qJ T hv
   generalize hq:Xt tm x=x' at this
   have h2:=this
   cases this with
   | pointer b o L hb=>exact ⟨f,_,w,rfl,r,Turn.refl _ _ _,h2⟩
  ·cases hop
 case binOp bop ty x y ty2 =>
  split at hop
  ·rename_i a b ha hb
   refine zD r hop fun u hu=>?_
   obtain ⟨v',q1,q2⟩:=qbu (w:=w) hu (qJ T ha) (qJ T hb)
   exact ⟨v',by simp only [Sem.run_bind,PI hu (qJ T ha) (qJ T hb),Result.andThen_ok,q1],q2⟩
  ·cases hop
 case unOp uop ty x =>
  split at hop
  ·rename_i a ha
   exact zD r hop fun u hu=>qdh hu (qJ T ha)
  ·cases hop
 case convert s d x =>
  split at hop
  ·rename_i a ha
   split at hop
   ·rename_i v hv
    cases hop
    obtain ⟨v',q1,q2⟩:=y5 (w:=w) hv (qJ T ha)
    exact ⟨f,v',w,by simp only [Sem.run_bind,q1,Result.andThen_ok];rfl,r,Turn.refl _ _ _,q2⟩
   ·split at hop
    ·rename_i v hv
     cases hop
     obtain ⟨v',q1,q2⟩:=WS r hv (qJ T ha)
     exact ⟨f,v',w,by simp only [Sem.run_bind,q1,Result.andThen_ok];rfl,r,Turn.refl _ _ _,q2⟩
    ·exact zD r hop fun u hu=>VX r hu (qJ T ha)
  ·cases hop
 case makeFunc fn first captured =>
  cases fn<;>simp only at hop
  case func g =>
   split at hop
   ·rename_i a b ha hb
    cases hop
    have h1:=Jn T ha
    have h2:=Jn T hb
    refine ⟨f,_,w,rfl,r,Turn.refl _ _ _,?_⟩
    have e1:first.map (Xt tm)=((first.toList).map (Xt tm)).toArray:=by apply Array.ext';simp
    have e2:captured.map (Xt tm)=((captured.toList).map (Xt tm)).toArray:=by apply Array.ext';simp
    rw [e1,e2]
    exact .func g _ _ _ _ h1 h2
   ·cases hop
  all_goals cases hop
 case makeSlice ty l c =>
  split at hop
  ·rename_i a b ha hb
   exact JW hop fun v h' hv=>VZ r hv (qJ T ha) (qJ T hb)
  ·cases hop
 case slice ty x lo hi mx =>
  split at hop
  ·rename_i a l rr m ha hl hr hm
   exact zD r hop fun u hu=>Gm r hu (qJ T ha) (XJ T hl) (XJ T hr) (XJ T hm)
  ·cases hop
 case fieldAddr s x k =>
  split at hop
  ·rename_i a ha
   exact zD r hop fun u hu=>V5 hu (qJ T ha)
  ·cases hop
 case field s x k =>
  split at hop
  ·rename_i a ha
   exact zD r hop fun u hu=>Gt hu (qJ T ha)
  ·cases hop
 case indexAddr ty x i =>
  split at hop
  ·rename_i a k ha hk
   exact zD r hop fun u hu=>V4 hu (qJ T ha) (qJ T hk)
  ·cases hop
 case index ty x i =>
  split at hop
  ·rename_i a k ha hk
   exact zD r hop fun u hu=>Gp hu (qJ T ha) (qJ T hk)
  ·cases hop
 case extract x k =>
  split at hop
  ·rename_i vs ha
   obtain ⟨vs',e,hvs⟩:=(qJ T ha).wB
   refine zD r hop fun u hu=>?_
   obtain ⟨u',q1,q2⟩:=hvs.get _ _ hu
   refine ⟨u',?_,q2⟩
   rw [Array.getElem?_toList] at q1
   simp only [e,Instr.extract,q1]
   rfl
  ·cases hop
 case call c =>
  obtain ⟨callee,args,argTypes⟩:=c
  simp only at hop
  split at hop
  rotate_left
  ·cases hop
  rename_i vs hvs
  have hargs:=Jn T hvs
  have e1:args.map (Xt tm)=((args.toList).map (Xt tm)).toArray:=by apply Array.ext';simp
  split at hop
  ·rename_i b
   have:=y8 (ty:=type) (consts:=args.map fun|.const _=>true | _=>false) r hop hargs
   rw [← e1,show argTypes.toList.toArray=argTypes by simp] at this
   exact this
  ·rename_i g
   split at hop
   ·rename_i fn first captured hf
    cases hop
    obtain ⟨a',c',e,h1,h2⟩:=(qJ T hf).qan
    refine ⟨a'.toList ++ ((args.toList).map (Xt tm) ++ c'.toList),?_,h1.append (hargs.append h2)⟩
    simp only [Sem.run_bind,resolve,e,Deferred.ofValue,Sem.run_pure,Result.andThen_ok,invoke]
    congr 2
    apply Array.ext'
    simp
   ·rename_i l first captured hf
    split at hop
    rotate_left
    ·cases hop
    rename_i z1 z2
    have y1:first=#[]:=Array.ext' z1
    have y2:captured=#[]:=Array.ext' z2
    subst y1;subst y2
    cases hop
    obtain ⟨L,hL,e⟩:=(qJ T hf).qcb
    refine ⟨L,_,hL,?_,hargs⟩
    simp only [Sem.run_bind,resolve,e,Deferred.ofValue,Sem.run_pure,Result.andThen_ok,invoke]
    congr 2
    apply Array.ext'
    simp
   ·cases hop
  ·cases hop
 all_goals cases hop
end
end Go.Proofs.Xx
namespace Go.Proofs.Xx
open Go
set_option linter.unusedSimpArgs false
set_option linter.unusedVariables false
def fr (fn:FuncId) (ro:Option Nat) (tm:Array Value) (todo:List Item) (ds:List Deferred):Frame :=
 { fn:=fn,tmps:=tm,todo:=todo,defers:=ds,mode:=.run,kind:=.normal,roundOf:=ro }
theorem J5 (fn:FuncId) (ro:Option Nat) (tm:Array Value) (todo:List Item) (ds:List Deferred):(fr fn ro tm todo ds).eval=Xt tm:=by
 funext o;cases o<;>rfl
section
variable {P:Program} {fn:FuncId} {ro:Option Nat} {tm:Array Value} {k:List Item} {ds:List Deferred} {cs:List Frame} {w:World}
theorem qeN:step P (lone (fr fn ro tm (.code .skip :: k) ds) cs w) = .next (lone (fr fn ro tm k ds) cs w):=step_lone_go (by simp [stepG,stepG.exec,fr])
theorem qdx {l:Nat}:step P (lone (fr fn ro tm (.code (.label l) :: k) ds) cs w) = .next (lone (fr fn ro tm k ds) cs w):=step_lone_go (by simp [stepG,stepG.exec,fr])
theorem qaM {id:Nat}:step P (lone (fr fn ro tm (.inBlock id :: k) ds) cs w) = .next (lone (fr fn ro tm k ds) cs w):=step_lone_go (by simp [stepG,stepG.exec,fr])
theorem qaL {c:Code}:step P (lone (fr fn ro tm (.inScope c :: k) ds) cs w) = .next (lone (fr fn ro tm k ds) cs w):=step_lone_go (by simp [stepG,stepG.exec,fr])
theorem qaJ {x y:Code}:step P (lone (fr fn ro tm (.code (.seq x y) :: k) ds) cs w) = .next (lone (fr fn ro tm (.code x :: .code y :: k) ds) cs w):=step_lone_go (by simp [stepG,stepG.exec,fr])
theorem qbC {c:Operand} {x y:Code} {b:Bool} (h:Xt tm c = .bool b):step P (lone (fr fn ro tm (.code (.cond c x y) :: k) ds) cs w) = .next (lone (fr fn ro tm (.code (if b then x else y) :: k) ds) cs w) :=
 step_lone_go (by
  have:=congrFun (J5 fn ro tm (.code (.cond c x y) :: k) ds) c
  simp only [fr] at this
  simp [stepG,stepG.exec,fr,this,h])
theorem YW {id:Nat} {c:Code}:step P (lone (fr fn ro tm (.code (.block id c) :: k) ds) cs w) = .next (lone (fr fn ro tm (.code c :: .inBlock id :: k) ds) cs w):=step_lone_go (by simp [stepG,stepG.exec,fr])
theorem XW {c:Code}:step P (lone (fr fn ro tm (.code (.loop c) :: k) ds) cs w) = .next (lone (fr fn ro tm (.code c :: .inLoop c :: k) ds) cs w):=step_lone_go (by simp [stepG,stepG.exec,fr])
theorem qcl {c:Code}:step P (lone (fr fn ro tm (.inLoop c :: k) ds) cs w) = .next (lone (fr fn ro tm (.code c :: .inLoop c :: k) ds) cs w):=step_lone_go (by simp [stepG,stepG.exec,fr])
theorem xB {c:Code}:step P (lone (fr fn ro tm (.code (.scope c) :: k) ds) cs w) = .next (lone (fr fn ro tm (.code c :: .inScope c :: k) ds) cs w):=step_lone_go (by simp [stepG,stepG.exec,fr])
theorem qeP {id:Nat} {k':List Item} (h:exitTo id k=some k'):step P (lone (fr fn ro tm (.code (.exit id) :: k) ds) cs w) = .next (lone (fr fn ro tm k' ds) cs w):=step_lone_go (by simp [stepG,stepG.exec,fr,h])
theorem qck {id:Nat} {ops:Array Oper}:step P (lone (fr fn ro tm (.code (.region id ops false) :: k) ds) cs w) = .next (lone (fr fn ro tm (.inRegion ops (List.range ops.size) :: k) ds) cs w):=step_lone_go (by simp [stepG,stepG.exec,fr])
theorem xC {id:Nat} {ops:Array Oper}:step P (lone (fr fn ro tm (.code (.region id ops true) :: k) ds) cs w) =
 .next (lone (fr fn ro tm (.inRegion ops (Region.schedule (P.follows .mixedOrders) ops (w.tape w.drawn (.order fn id))) :: k) ds) cs { w with drawn:=w.drawn+1 }) :=
 step_lone_go (by simp [stepG,stepG.exec,fr,choose,Sem.run,Question.forced,Question.cut])
theorem Yq {ops:Array Oper}:step P (lone (fr fn ro tm (.inRegion ops [] :: k) ds) cs w) = .next (lone (fr fn ro tm k ds) cs w):=step_lone_go (by simp [stepG,stepG.exec,fr])
def xU (tm:Array Value) (d:Option Tmp) (v:Value):Array Value:=match d with|some d=>tm.setIfInBounds d v|none=>tm
theorem JK {ops:Array Oper} {i:Nat} {rest:List Nat} (v:Value):(fr fn ro tm (.inRegion ops (i :: rest) :: k) ds).finish v=fr fn ro (xU tm ((ops[i]?).bind (·.dst)) v) (.inRegion ops rest :: k) ds:=by
 unfold Frame.finish fr xU
 simp only
 cases (ops[i]?).bind (·.dst)<;>rfl
theorem xE {ops:Array Oper} {i:Nat} {rest:List Nat} (h:((ops[i]?).map (Region.wanted · (yielded ops tm))).getD false=false) :
 step P (lone (fr fn ro tm (.inRegion ops (i :: rest) :: k) ds) cs w) = .next (lone (fr fn ro (xU tm ((ops[i]?).bind (·.dst)) undef) (.inRegion ops rest :: k) ds) cs w):=by
 refine step_lone_go ?_
 rw [← JK]
 simp [stepG,stepG.exec,fr,h]
def ZO:Op→Bool
 | .defer _=>true
 | _=>false
theorem Xy {ops:Array Oper} {i:Nat} {rest:List Nat} {o:Oper} {v:Value} {w':World} (ho:ops[i]? = some o) (hw:Region.wanted o (yielded ops tm)=true) (hd:ZO o.op=false)
 (hr:(execOp (Xt tm) o).run P w = .ok (.value v) w') :
 step P (lone (fr fn ro tm (.inRegion ops (i :: rest) :: k) ds) cs w) = .next (lone (fr fn ro (xU tm o.dst v) (.inRegion ops rest :: k) ds) cs w'):=by
 refine step_lone_go ?_
 have h1:=JK (fn:=fn) (ro:=ro) (tm:=tm) (k:=k) (ds:=ds) (ops:=ops) (i:=i) (rest:=rest) v
 have h2:=J5 fn ro tm (.inRegion ops (i :: rest) :: k) ds
 simp only [ho,Option.bind_some] at h1
 rw [← h1]
 simp only [fr] at h2 ⊢
 simp only [stepG,stepG.exec,ho,Option.map_some,hw,Option.getD_some,if_true,stepG.oper,Frame.oper?]
 have h3:∀ (x:GStep) (y:Call→GStep),(match ro,o.op with|some l,.defer c=>y c | _,_=>x)=x:=by
  intro x y
  cases hop:o.op<;>first|(cases ro<;>rfl)|(rw [hop] at hd;cases hd)
 cases ro with
 | none=>simp [stepG.apply,h2,hr]
 | some l =>
  cases hop:o.op<;>first|(rw [hop] at hd;cases hd;done)|simp [stepG.apply,h2,hr]
end
end Go.Proofs.Xx
namespace Go.Proofs.Xx
open Go
set_option linter.unusedSimpArgs false
set_option linter.unusedVariables false
section
variable {P:Program} {fn:FuncId} {ro:Option Nat} {tm:Array Value} {k:List Item} {ds:List Deferred} {cs:List Frame} {w:World}
theorem qaK {ops:Array Oper} {i:Nat} {rest:List Nat} {o:Oper} {w':World} (ho:ops[i]? = some o) (hw:Region.wanted o (yielded ops tm)=true) (hd:ZO o.op=false)
 (hr:(execOp (Xt tm) o).run P w = .ok .skip w') :
 step P (lone (fr fn ro tm (.inRegion ops (i :: rest) :: k) ds) cs w) = .next (lone (fr fn ro (xU tm o.dst undef) (.inRegion ops rest :: k) ds) cs w'):=by
 refine step_lone_go ?_
 have h1:=JK (fn:=fn) (ro:=ro) (tm:=tm) (k:=k) (ds:=ds) (ops:=ops) (i:=i) (rest:=rest) undef
 have h2:=J5 fn ro tm (.inRegion ops (i :: rest) :: k) ds
 simp only [ho,Option.bind_some] at h1
 rw [← h1]
 simp only [fr] at h2 ⊢
 simp only [stepG,stepG.exec,ho,Option.map_some,hw,Option.getD_some,if_true,stepG.oper,Frame.oper?]
 cases ro with
 | none=>simp [stepG.apply,h2,hr]
 | some l =>
  cases hop:o.op<;>first|(rw [hop] at hd;cases hd;done)|simp [stepG.apply,h2,hr]
theorem G6 {ops:Array Oper} {i:Nat} {rest:List Nat} {o:Oper} {w':World} {g:FuncId} {args:Array Value} (ho:ops[i]? = some o) (hw:Region.wanted o (yielded ops tm)=true) (hd:ZO o.op=false)
 (hr:(execOp (Xt tm) o).run P w = .ok (.enter g args) w') :
 step P (lone (fr fn ro tm (.inRegion ops (i :: rest) :: k) ds) cs w) = .next (lone (Frame.enter P g args .normal) (fr fn ro tm (.inRegion ops (i :: rest) :: k) ds :: cs) w'):=by
 refine step_lone_go ?_
 have h2:=J5 fn ro tm (.inRegion ops (i :: rest) :: k) ds
 simp only [fr] at h2 ⊢
 simp only [stepG,stepG.exec,ho,Option.map_some,hw,Option.getD_some,if_true,stepG.oper,Frame.oper?]
 cases ro with
 | none=>simp [stepG.apply,h2,hr]
 | some l =>
  cases hop:o.op<;>first|(rw [hop] at hd;cases hd;done)|simp [stepG.apply,h2,hr]
theorem G5 {ops:Array Oper} {i:Nat} {rest:List Nat} {o:Oper} {w':World} {l:Nat} {g:FuncId} {t:Array Value} {asg bo:Code} (ho:ops[i]? = some o) (hw:Region.wanted o (yielded ops tm)=true) (hd:ZO o.op=false)
 (hr:(execOp (Xt tm) o).run P w = .ok (.round l g t asg bo) w') :
 step P (lone (fr fn ro tm (.inRegion ops (i :: rest) :: k) ds) cs w) = .next (lone (fr g (some l) t [.code asg,.beginRound,.code bo] []) (fr fn ro tm (.inRegion ops (i :: rest) :: k) ds :: cs) w'):=by
 refine step_lone_go ?_
 have h2:=J5 fn ro tm (.inRegion ops (i :: rest) :: k) ds
 simp only [fr] at h2 ⊢
 simp only [stepG,stepG.exec,ho,Option.map_some,hw,Option.getD_some,if_true,stepG.oper,Frame.oper?]
 cases ro with
 | none=>simp [stepG.apply,h2,hr,Frame.round]
 | some l =>
  cases hop:o.op<;>first|(rw [hop] at hd;cases hd;done)|simp [stepG.apply,h2,hr,Frame.round]
theorem vG {l:Nat} {w':World} (hr:(Instr.beginRound l).run P w = .ok () w') :
 step P (lone (fr fn (some l) tm (.beginRound :: k) ds) cs w) = .next (lone (fr fn (some l) tm k ds) cs w') :=
 step_lone_go (by simp [stepG,stepG.exec,fr,stepG.apply,hr,Frame.finish])
theorem gK {l:Nat} {w':World} {v:Value} {c:Frame} (hr:(Instr.endRound l none).run P w = .ok v w') :
 step P (lone (fr fn (some l) tm [] ds) (c :: cs) w) = .next (lone (c.finish v) cs w') :=
 step_lone_go (by simp [stepG,stepG.exec,fr,hr,doReturn])
theorem gJ {l:Nat} {w':World} {v:Value} {c:Frame} (hr:(Instr.endRound l (some .ret)).run P w = .ok v w') :
 step P (lone (fr fn (some l) tm (.code .ret :: k) ds) (c :: cs) w) = .next (lone (c.finish v) cs w') :=
 step_lone_go (by simp [stepG,stepG.exec,fr,hr,doReturn])
theorem vF {l id:Nat} {w':World} {v:Value} {c:Frame} (he:exitTo id k=none) (hr:(Instr.endRound l (some (.exit id))).run P w = .ok v w') :
 step P (lone (fr fn (some l) tm (.code (.exit id) :: k) ds) (c :: cs) w) = .next (lone (c.finish v) cs w') :=
 step_lone_go (by simp [stepG,stepG.exec,fr,he,hr,doReturn])
def gone (fn:FuncId) (tm:Array Value) (todo:List Item) (ds:List Deferred):Frame:={ fn:=fn,tmps:=tm,todo:=todo,defers:=ds,mode:=.returning,kind:=.normal,roundOf:=none }
theorem qdw:step P (lone (fr fn none tm (.code .ret :: k) ds) cs w) = .next (lone (gone fn tm (.code .ret :: k) ds) cs w):=step_lone_go (by simp [stepG,stepG.exec,fr,gone])
theorem qdy:step P (lone (fr fn none tm [] ds) cs w) = .next (lone (gone fn tm [] ds) cs w):=step_lone_go (by simp [stepG,stepG.exec,fr,gone])
theorem qeO {r:Nat} {w':World} (hr:(Instr.takeDeferred r).run P w = .ok [] w'):step P (lone (gone fn tm k ({ target:=.collected r,args:=#[] } :: ds)) cs w) = .next (lone (gone fn tm k ds) cs w') :=
 step_lone_go (by simp [stepG,unwind,gone,hr])
theorem qcj {c:Frame} {f:Func} {v:Value} {w':World} (hf:P.funcs[fn]? = some f) (hr:(results f tm).run P w = .ok v w'):step P (lone (gone fn tm k []) (c :: cs) w) = .next (lone (c.finish v) cs w') :=
 step_lone_go (by simp [stepG,unwind,gone,hf,hr,doReturn])
theorem gI {f:Operand} {ps:Array Tmp} {asg bo:Code} {g:FuncId} {first captured args:Array Value} {w1 w2:World} {l r:Nat}
 (he:(Instr.enterLoop fn tm ps asg bo none).run P w = .ok (l,[{ target:=.collected r,args:=#[] }]) w1) (hf:Xt tm f = .func (.func g) first captured)
 (hc:(callFunc g (first ++ #[.func (.yield l) #[] #[]] ++ captured)).run P w1 = .ok (.enter g args) w2) :
 step P (lone (fr fn none tm (.code (.rangeFunc f ps asg bo) :: k) ds) cs w) =
  .next (lone (Frame.enter P g args .normal) (fr fn none tm (.inRangeFunc l :: k) ({ target:=.collected r,args:=#[] } :: ds) :: cs) w2):=by
 refine step_lone_go ?_
 have h2:=J5 fn none tm (.inRangeFunc l :: k) ({ target:=.collected r,args:=#[] } :: ds)
 simp only [fr] at h2 ⊢
 simp [stepG,stepG.exec,he,stepG.apply,resolve,h2,hf,Deferred.ofValue,invoke]
 have h9:first ++ #[Value.func (.yield l) #[] #[]] ++ captured=first.push (.func (.yield l) #[] #[]) ++ captured:=by apply Array.ext';simp
 rw [h9] at hc
 simp [Xt,hc]
theorem YD {f:Operand} {ps:Array Tmp} {asg bo:Code} {g:FuncId} {first captured:Array Value} {v:Value} {w1 w2:World} {l r:Nat}
 (he:(Instr.enterLoop fn tm ps asg bo none).run P w = .ok (l,[{ target:=.collected r,args:=#[] }]) w1) (hf:Xt tm f = .func (.func g) first captured)
 (hc:(callFunc g (first ++ #[.func (.yield l) #[] #[]] ++ captured)).run P w1 = .ok (.value v) w2) :
 step P (lone (fr fn none tm (.code (.rangeFunc f ps asg bo) :: k) ds) cs w) =
  .next (lone (fr fn none tm (.endRangeFunc l :: k) ({ target:=.collected r,args:=#[] } :: ds)) cs w2):=by
 refine step_lone_go ?_
 have h2:=J5 fn none tm (.inRangeFunc l :: k) ({ target:=.collected r,args:=#[] } :: ds)
 simp only [fr] at h2 ⊢
 simp [stepG,stepG.exec,he,stepG.apply,resolve,h2,hf,Deferred.ofValue,invoke]
 have h9:first ++ #[Value.func (.yield l) #[] #[]] ++ captured=first.push (.func (.yield l) #[] #[]) ++ captured:=by apply Array.ext';simp
 rw [h9] at hc
 simp [Xt,hc,Frame.finish]
theorem qdi {l:Nat} (v:Value):(fr fn ro tm (.inRangeFunc l :: k) ds).finish v=fr fn ro tm (.endRangeFunc l :: k) ds:=rfl
theorem Xz {l:Nat} {j:Option Code} {w':World} (hr:(Instr.endLoop l).run P w = .ok j w') :
 step P (lone (fr fn ro tm (.endRangeFunc l :: k) ds) cs w) = .next (lone (fr fn ro tm ((j.map Item.code).toList ++ k) ds) cs w') :=
 step_lone_go (by simp [stepG,stepG.exec,fr,hr])
end
end Go.Proofs.Xx
