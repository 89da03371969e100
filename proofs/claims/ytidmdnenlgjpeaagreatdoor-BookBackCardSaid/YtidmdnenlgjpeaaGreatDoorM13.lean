/-
  Parse.
-/
import Derived.Test.YtidmdnenlgjpeaaGreatDoorM12
import Derived.Test.YtidmdnenlgjpeaaGreatDoorM11
import Derived.Test.YtidmdnenlgjpeaaGreatDoorM10
set_option linter.unusedSimpArgs false
set_option linter.unusedVariables false
set_option linter.unusedSectionVars false
set_option maxRecDepth 100000
set_option maxHeartbeats 4000000
namespace Go.Proofs.Xx
open Go Go.Proofs
theorem qbD {r:Rl} (H:RO r) {ws:List (List UInt8)} (h:(QD r ws).2=0):RO (QD r ws).1:=by
 unfold QD at h ⊢;split
 ·rename_i h1
  rw [if_pos h1] at h;split
  ·rename_i h2;rw [if_pos h2] at h;exact H.add h
  ·exact H
 ·rename_i h1
  rw [if_neg h1] at h;split
  ·rename_i h2
   rw [if_pos h2] at h;split
   ·rename_i h3;rw [if_pos h3] at h;exact H.tie h
   ·exact H
  ·exact H
theorem qdf {r:Rl} (H:RO r) {s:List UInt8} (h:(QL r s).2=0):RO (QL r s).1:=by
 unfold QL at h ⊢;split
 ·rename_i h1;rw [if_pos h1] at h;exact qbD H h
 ·exact H
theorem qfw:RO ⟨[],[]⟩:=by
 refine ⟨?_,?_,?_,?_,?_,?_⟩<;>simp [TS]
theorem WI:∀ {P:List (List UInt8)} {s:List UInt8},s∈zY P→∃ w∈P,s.length≤w.length+1
 | [],s,h=>by cases h
 | [w],s,h=>by
  unfold zY at h;split at h
  ·cases h
  ·rw [zB5.1 h];exact ⟨w,by simp,by omega⟩
 | w :: u :: r,s,h=>by
  rcases zE8.1 (show s∈(w ++ [10]) :: zY (u :: r) from h) with rfl|h
  ·exact ⟨w,by simp,by simp⟩
  ·obtain ⟨x,x1,x2⟩:=WI h;exact ⟨x,List.mem_cons_of_mem _ x1,x2⟩
def rlV0:RlV:=⟨⟨none,0,0⟩,⟨none,0,0⟩,[]⟩
def PaR (o:jC) (l b5 b4 b3 b2 p:Nat) (ls:List (List UInt8)) (k:Nat) (rs:List Rs):Prop :=
 ∃ r,RO r∧ZC ⟨[],[]⟩ 0 ls=ZC r k (ls.drop k)∧rs=[Gs l o,jU p r,.blk b5 [.pointer (some ⟨p,0,none⟩)] 40,.blk b4 [.int .i64 0] 25,.blk b3 [.int .i64 0] 3,.blk b2 [.slice none 0 0,.slice none 0 0] 32]
def PaB (o:jC) (l b4 b3 b2:Nat) (ls:List (List UInt8)) (rs:List Rs):Prop :=
 ∃ (i:Nat) (e:Int),ZC ⟨[],[]⟩ 0 ls = .bad i e∧rs=[Gs l o,.blk b4 [.int .i64 e] 25,.blk b3 [.int .i64 i] 3,.blk b2 [.slice none 0 0,.slice none 0 0] 32]
variable [Flag]
theorem pI {h0 h:AH} {rs:List Rs} {b1 l:Nat} (s:List UInt8) (ls:List (List UInt8)) (hls:ls=zY (jm 10 s)) (hs:s.length≤1000000) (S:Hs h0 h (.blk b1 [str s] 9 :: rs)) (RS:Nat→List Rs→Prop) (RB:List Rs→Prop) (hr:RS 0 rs) (Y:Pz h0 l ls RS RB) :
 Fn Tryz.prog Xh 118 [yv l,.pointer (some ⟨b1,0,none⟩)] h (fun _ h'=>(∃ rs',RS ls.length rs'∧Hs h0 h' rs')∨(∃ rs',RB rs'∧Hs h0 h' rs')):=by
 subst hls;exact qaB s hs S RS RB hr Y
def qbS:jC→jC
 | .loop _ _ sz t ps a b=>.loop .done (some .ret) sz t ps a b
 | o=>o
theorem qbC {h0 h:AH} {b1 l b5 b4 b3 b2 p:Nat} {o:jC} (s:List UInt8) (ls:List (List UInt8)) (hls:ls=zY (jm 10 s)) (hs:s.length≤1000000) (S:Hs h0 h [.blk b1 [str s] 9,Gs l o,jU p ⟨[],[]⟩,.blk b5 [.pointer (some ⟨p,0,none⟩)] 40,.blk b4 [.int .i64 0] 25,.blk b3 [.int .i64 0] 3,.blk b2 [.slice none 0 0,.slice none 0 0] 32])
 (Y:Pz h0 l ls (PaR o l b5 b4 b3 b2 p ls) (PaB (qbS o) l b4 b3 b2 ls)) :
 Fn Tryz.prog Xh 118 [yv l,.pointer (some ⟨b1,0,none⟩)] h (fun _ h'=>(∃ rs',PaR o l b5 b4 b3 b2 p ls ls.length rs'∧Hs h0 h' rs')∨(∃ rs',PaB (qbS o) l b4 b3 b2 ls rs'∧Hs h0 h' rs')) :=
 pI s ls hls hs S _ _ ⟨⟨[],[]⟩,qfw,rfl,rfl⟩ Y
theorem qaK {h0:AH} (w:WfH h0) (s:List UInt8):Fn Tryz.prog Xh 63 [str s] h0 (fun v h'=>∃ b,v = .func (.func 118) #[] #[.pointer (some ⟨b,0,none⟩)]∧Hs h0 h' [.blk b [str s] 9]):=by
 have S:=Hs.start w;refine zF rfl Tryz.func63 rfl rfl ?_;all_goals (repeat' (first|refine qx ?_|refine qi rfl ?_|refine qw ?_|refine qA ?_|refine qh ?_|refine qj ?_|refine qo ?_|(refine qf 0 ?_;(refine bx S ?_;clear S;intro b h S);refine mv ?_;refine qg ?_)|(refine qf 1 ?_;refine vl ?_;refine mv ?_;refine qg ?_)))
 refine qF ⟨_,rfl,?_⟩;exact ⟨_,rfl,S⟩
theorem Vh {h0:AH} (w:WfH h0) (s:List UInt8):Fn Tryz.prog Xh 20 [str s] h0 (fun u h'=>(∃ (r:Rl) (v:RlV),QB s = .ok r∧RO r∧u = .tuple #[v.val,.int .i64 0,.int .i64 0]∧v.gs.map (·.toGu)=r.us∧Hs h0 h' (xU v r.ts))∨(∃ (i:Nat) (e:Int),QB s = .bad i e∧u = .tuple #[rlV0.val,.int .i64 i,.int .i64 e]∧Hs h0 h' [])):=by
 have S:=Hs.start w;refine zF rfl Tryz.func20 rfl rfl ?_;all_goals (repeat' (first|refine qx ?_|refine qi rfl ?_|refine qw ?_|refine qA ?_|refine qh ?_|refine qj ?_|refine qo ?_|(refine qf 0 ?_;(refine al S ?_;clear S;intro b h S);(refine al S ?_;clear S;intro b h S);(refine al S ?_;clear S;intro b h S);refine qg ?_)))
 obtain ⟨b4,hnm⟩:∃ x,x=b:=⟨_,rfl⟩;subst hnm;obtain ⟨b3,hnm⟩:∃ x,x=b:=⟨_,rfl⟩;subst hnm;obtain ⟨b2,hnm⟩:∃ x,x=b:=⟨_,rfl⟩;subst hnm;replace S:Hs h0 h [.blk b4 [.int .i64 0] 25,.blk b3 [.int .i64 0] 3,.blk b2 [.slice none 0 0,.slice none 0 0] 32]:=S;all_goals (repeat' (first|refine qx ?_|refine qi rfl ?_|refine qw ?_|refine qA ?_|refine qh ?_|refine qj ?_|refine qo ?_|(refine qf 1 ?_;refine mv ?_;refine tl ?_;(first|refine cT ?_|refine cF ?_|(refine cS ?_ ?_<;>intro hc))<;>(refine qg ?_))|(refine qf 2 ?_;refine vl ?_;(first|(refine sB S rfl rfl ?_;clear S;intro h S)|(refine J3 S rfl rfl ?_;clear S;intro h S));(first|(refine sB S rfl rfl ?_;clear S;intro h S)|(refine J3 S rfl rfl ?_;clear S;intro h S));(first|(refine sB S rfl rfl ?_;clear S;intro h S)|(refine J3 S rfl rfl ?_;clear S;intro h S));refine qg ?_)))
 ·refine qF ⟨_,zJ S rfl (by first|exact .here|exact .there .here|exact .there (.there .here)|exact .there (.there (.there .here))|exact .there (.there (.there (.there .here)))|exact .there (.there (.there (.there (.there .here))))|exact .there (.there (.there (.there (.there (.there .here)))))|exact .there (.there (.there (.there (.there (.there (.there .here))))))|exact .there (.there (.there (.there (.there (.there (.there (.there .here)))))))|exact .there (.there (.there (.there (.there (.there (.there (.there (.there .here))))))))|exact .there (.there (.there (.there (.there (.there (.there (.there (.there (.there .here)))))))))|exact .there (.there (.there (.there (.there (.there (.there (.there (.there (.there (.there .here))))))))))|exact .there (.there (.there (.there (.there (.there (.there (.there (.there (.there (.there (.there .here)))))))))))) (by exact rfl) (zJ S rfl (by first|exact .here|exact .there .here|exact .there (.there .here)|exact .there (.there (.there .here))|exact .there (.there (.there (.there .here)))|exact .there (.there (.there (.there (.there .here))))|exact .there (.there (.there (.there (.there (.there .here)))))|exact .there (.there (.there (.there (.there (.there (.there .here))))))|exact .there (.there (.there (.there (.there (.there (.there (.there .here)))))))|exact .there (.there (.there (.there (.there (.there (.there (.there (.there .here))))))))|exact .there (.there (.there (.there (.there (.there (.there (.there (.there (.there .here)))))))))|exact .there (.there (.there (.there (.there (.there (.there (.there (.there (.there (.there .here))))))))))|exact .there (.there (.there (.there (.there (.there (.there (.there (.there (.there (.there (.there .here)))))))))))) (by exact rfl) (zJ S rfl (by first|exact .here|exact .there .here|exact .there (.there .here)|exact .there (.there (.there .here))|exact .there (.there (.there (.there .here)))|exact .there (.there (.there (.there (.there .here))))|exact .there (.there (.there (.there (.there (.there .here)))))|exact .there (.there (.there (.there (.there (.there (.there .here))))))|exact .there (.there (.there (.there (.there (.there (.there (.there .here)))))))|exact .there (.there (.there (.there (.there (.there (.there (.there (.there .here))))))))|exact .there (.there (.there (.there (.there (.there (.there (.there (.there (.there .here)))))))))|exact .there (.there (.there (.there (.there (.there (.there (.there (.there (.there (.there .here))))))))))|exact .there (.there (.there (.there (.there (.there (.there (.there (.there (.there (.there (.there .here)))))))))))) (by exact rfl) (by exact rfl))),?_⟩;have:65536<s.length:=by omega
  exact .inr ⟨0,7,by unfold QB;rw [if_pos this],rfl,S.drop⟩
 ·have hs:¬ 65536<s.length:=by omega
  have hpb:QB s=ZC ⟨[],[]⟩ 0 (zY (jm 10 s)):=by unfold QB;rw [if_neg hs]
  rw [hpb];all_goals (repeat' (first|refine qx ?_|refine qi rfl ?_|refine qw ?_|refine qA ?_|refine qh ?_|refine qj ?_|refine qo ?_|(refine qf 3 ?_;skip)))
  (refine qH rfl rfl rfl rfl rfl ((qbw S.wf).mono ?_);rintro _ h ⟨p,rfl,x⟩)<;>(replace S:=S.Xo x;clear x;(refine al S ?_;clear S;intro b h S);(first|(refine sB S rfl rfl ?_;clear S;intro h S)|(refine J3 S rfl rfl ?_;clear S;intro h S));refine qg ?_)
  obtain ⟨b5,hnm⟩:∃ x,x=b:=⟨_,rfl⟩;subst hnm;replace S:Hs h0 h [.blk b5 [.pointer (some ⟨p,0,none⟩)] 40,jU p ⟨[],[]⟩,.blk b4 [.int .i64 0] 25,.blk b3 [.int .i64 0] 3,.blk b2 [.slice none 0 0,.slice none 0 0] 32]:=S;all_goals (repeat' (first|refine qx ?_|refine qi rfl ?_|refine qw ?_|refine qA ?_|refine qh ?_|refine qj ?_|refine qo ?_|(refine qf 4 ?_;refine mv ?_)))
  (refine qH rfl rfl rfl rfl rfl ((qaK S.wf s).mono ?_);rintro _ h ⟨b1,rfl,x⟩)<;>(replace S:=S.Xo x;clear x;refine qg ?_)
  obtain ⟨ls,hls⟩:∃ ls,ls=zY (jm 10 s):=⟨_,rfl⟩
  rw [← hls];have hln:∀ k,k<ls.length→(ls.getD k default).length≤1000000:=fun k hk=>by
   obtain ⟨x,x1,x2⟩:=WI (show ls.getD k default∈zY (jm 10 s) from hls ▸ qJ hk);have:=X9 10 s x x1;omega
  all_goals (repeat' (first|refine qx ?_|refine qi rfl ?_|refine qw ?_|refine qA ?_|refine qh ?_|refine qj ?_|refine qo ?_|(refine qf 0 ?_;(refine al S ?_;clear S;intro b h S);(refine al S ?_;clear S;intro b h S);(refine al S ?_;clear S;intro b h S);refine qg ?_)|(refine qf 1 ?_;refine mv ?_;refine tl ?_;(first|refine cT ?_|refine cF ?_|(refine cS ?_ ?_<;>intro hc))<;>(refine qg ?_))|(refine qf 2 ?_;refine vl ?_;(first|(refine sB S rfl rfl ?_;clear S;intro h S)|(refine J3 S rfl rfl ?_;clear S;intro h S));(first|(refine sB S rfl rfl ?_;clear S;intro h S)|(refine J3 S rfl rfl ?_;clear S;intro h S));(first|(refine sB S rfl rfl ?_;clear S;intro h S)|(refine J3 S rfl rfl ?_;clear S;intro h S));refine qg ?_)|(refine qf 3 ?_;skip)|(refine qf 4 ?_;refine mv ?_)))
  refine qcn S rfl ?_;intro l tt h1 hk S1;clear S;have S:=S1.front (.there .here);replace S:=S.front (.there (.there (.there .here)));replace S:=S.front (.there (.there .here));replace S:=S.front (.there (.there .here));refine (qbC s ls hls (by omega) S ?_).mono ?_
  ·rintro k rs own h hkl ⟨r,H,hp,rfl⟩ S;simp only [zC6,zC0] at S;refine qfU hk S rfl rfl ?_;all_goals (repeat' (first|refine qx ?_|refine qi rfl ?_|refine qw ?_|refine qA ?_|refine qh ?_|refine qj ?_|refine qo ?_|(refine qf 5 ?_;refine mv ?_;refine qg ?_)|(refine qf 6 ?_;refine mv ?_;refine qg ?_)))
   refine ⟨rfl,_,S,?_⟩;clear S;intro h S;have S:=S.front (.there .here);all_goals (repeat' (first|refine qx ?_|refine qi rfl ?_|refine qw ?_|refine qA ?_|refine qh ?_|refine qj ?_|refine qo ?_|(refine qf 7 ?_;(first|refine lB S rfl rfl ?_|refine zh S rfl rfl ?_|refine zU S ?_|refine lH S ?_);refine mv ?_)))
   (refine qH rfl rfl rfl rfl rfl ((qcU S H (ls.getD k default) (hln k hkl)).mono ?_);rintro _ h ⟨rfl,S⟩)<;>(refine mv ?_;refine qg ?_)
   have hd:ls.drop k=ls.getD k default :: ls.drop (k+1):=by rw [zG7 hkl,zA2,zA4 hkl];rfl
   rw [hd] at hp;all_goals (repeat' (first|refine qx ?_|refine qi rfl ?_|refine qw ?_|refine qA ?_|refine qh ?_|refine qj ?_|refine qo ?_|(refine qf 7 ?_;(first|refine lB S rfl rfl ?_|refine zh S rfl rfl ?_|refine zU S ?_|refine lH S ?_);refine mv ?_)|(refine qf 8 ?_;refine mv ?_;(first|refine cT ?_|refine cF ?_|(refine cS ?_ ?_<;>intro hc))<;>(refine qg ?_))))
   ·all_goals (repeat' (first|refine qx ?_|refine qi rfl ?_|refine qw ?_|refine qA ?_|refine qh ?_|refine qj ?_|refine qo ?_|(refine qf 9 ?_;refine vl ?_;refine mv ?_;refine mv ?_;(first|(refine sB S rfl rfl ?_;clear S;intro h S)|(refine J3 S rfl rfl ?_;clear S;intro h S));(first|(refine sB S rfl rfl ?_;clear S;intro h S)|(refine J3 S rfl rfl ?_;clear S;intro h S));(first|(refine sB S rfl rfl ?_;clear S;intro h S)|(refine J3 S rfl rfl ?_;clear S;intro h S));refine qg ?_)))
    refine qF ?_;replace S:=(S.tail).del (.there .here);exact ⟨_,S,.inr ⟨rfl,fun h4 S=>.inr ⟨rfl,_,⟨k,(QL r (ls.getD k default)).2,hp.trans (YE hc),rfl⟩,S⟩⟩⟩
   ·have hz:(QL r (ls.getD k default)).2=0:=zF3.1 hc;replace S:=S.front (.there .here);refine ⟨_,S,.inl ⟨rfl,fun h4 S=>.inl ⟨rfl,_,⟨(QL r (ls.getD k default)).1,qdf H hz,hp.trans (XF hz),rfl⟩,S⟩⟩⟩
  ·clear S S1;rintro _ h (⟨_,⟨r,H,hp,rfl⟩,S⟩|⟨_,⟨i,e,hp,rfl⟩,S⟩)
   ·refine ⟨_,.inl ⟨S,?_⟩⟩;clear S;intro h S;all_goals (repeat' (first|refine qx ?_|refine qi rfl ?_|refine qw ?_|refine qA ?_|refine qh ?_|refine qj ?_|refine qo ?_|(refine qf 10 ?_;(first|refine lB S rfl rfl ?_|refine zh S rfl rfl ?_|refine zU S ?_|refine lH S ?_))))
    (refine qH rfl rfl rfl rfl rfl ((qcF S.wf (Hs.qfS S) H).mono ?_);rintro _ h ⟨⟨vg,vt,gs⟩,rfl,hu,x⟩)<;>(replace S:=S.join x;clear x;dsimp only [xU,List.cons_append,List.nil_append] at S;unfold RlV.val;dsimp only;dsimp only at hu;(first|(refine sB S rfl rfl ?_;clear S;intro h S)|(refine J3 S rfl rfl ?_;clear S;intro h S));(first|(refine sB S rfl rfl ?_;clear S;intro h S)|(refine J3 S rfl rfl ?_;clear S;intro h S));(first|(refine sB S rfl rfl ?_;clear S;intro h S)|(refine J3 S rfl rfl ?_;clear S;intro h S));refine qg ?_)
    all_goals (repeat' (first|refine qx ?_|refine qi rfl ?_|refine qw ?_|refine qA ?_|refine qh ?_|refine qj ?_|refine qo ?_|(refine qf 10 ?_;(first|refine lB S rfl rfl ?_|refine zh S rfl rfl ?_|refine zU S ?_|refine lH S ?_))))
    rw [List.drop_length] at hp;replace S:Hs h0 h [.sl vg.val 24 9 eG gs,.sl vt.val 111 3 Qm r.ts,tgO gs,jU p r,.blk b5 [.pointer (some ⟨p,0,none⟩)] 40,.blk b4 [.int .i64 0] 25,.blk b3 [.int .i64 0] 3,.blk b2 [vg.val,vt.val] 32]:=S;refine qF ⟨_,zJ S rfl (by first|exact .here|exact .there .here|exact .there (.there .here)|exact .there (.there (.there .here))|exact .there (.there (.there (.there .here)))|exact .there (.there (.there (.there (.there .here))))|exact .there (.there (.there (.there (.there (.there .here)))))|exact .there (.there (.there (.there (.there (.there (.there .here))))))|exact .there (.there (.there (.there (.there (.there (.there (.there .here)))))))|exact .there (.there (.there (.there (.there (.there (.there (.there (.there .here))))))))|exact .there (.there (.there (.there (.there (.there (.there (.there (.there (.there .here)))))))))|exact .there (.there (.there (.there (.there (.there (.there (.there (.there (.there (.there .here))))))))))|exact .there (.there (.there (.there (.there (.there (.there (.there (.there (.there (.there (.there .here)))))))))))) (by exact rfl) (zJ S rfl (by first|exact .here|exact .there .here|exact .there (.there .here)|exact .there (.there (.there .here))|exact .there (.there (.there (.there .here)))|exact .there (.there (.there (.there (.there .here))))|exact .there (.there (.there (.there (.there (.there .here)))))|exact .there (.there (.there (.there (.there (.there (.there .here))))))|exact .there (.there (.there (.there (.there (.there (.there (.there .here)))))))|exact .there (.there (.there (.there (.there (.there (.there (.there (.there .here))))))))|exact .there (.there (.there (.there (.there (.there (.there (.there (.there (.there .here)))))))))|exact .there (.there (.there (.there (.there (.there (.there (.there (.there (.there (.there .here))))))))))|exact .there (.there (.there (.there (.there (.there (.there (.there (.there (.there (.there (.there .here)))))))))))) (by exact rfl) (zJ S rfl (by first|exact .here|exact .there .here|exact .there (.there .here)|exact .there (.there (.there .here))|exact .there (.there (.there (.there .here)))|exact .there (.there (.there (.there (.there .here))))|exact .there (.there (.there (.there (.there (.there .here)))))|exact .there (.there (.there (.there (.there (.there (.there .here))))))|exact .there (.there (.there (.there (.there (.there (.there (.there .here)))))))|exact .there (.there (.there (.there (.there (.there (.there (.there (.there .here))))))))|exact .there (.there (.there (.there (.there (.there (.there (.there (.there (.there .here)))))))))|exact .there (.there (.there (.there (.there (.there (.there (.there (.there (.there (.there .here))))))))))|exact .there (.there (.there (.there (.there (.there (.there (.there (.there (.there (.there (.there .here)))))))))))) (by exact rfl) (by exact rfl))),?_⟩;exact .inl ⟨r,⟨vg,vt,gs⟩,hp,H,rfl,hu,S.pick⟩
   ·refine ⟨_,.inr ⟨S,?_⟩⟩;clear S;intro h S;refine ⟨_,zJ S rfl (by first|exact .here|exact .there .here|exact .there (.there .here)|exact .there (.there (.there .here))|exact .there (.there (.there (.there .here)))|exact .there (.there (.there (.there (.there .here))))|exact .there (.there (.there (.there (.there (.there .here)))))|exact .there (.there (.there (.there (.there (.there (.there .here))))))|exact .there (.there (.there (.there (.there (.there (.there (.there .here)))))))|exact .there (.there (.there (.there (.there (.there (.there (.there (.there .here))))))))|exact .there (.there (.there (.there (.there (.there (.there (.there (.there (.there .here)))))))))|exact .there (.there (.there (.there (.there (.there (.there (.there (.there (.there (.there .here))))))))))|exact .there (.there (.there (.there (.there (.there (.there (.there (.there (.there (.there (.there .here)))))))))))) (by exact rfl) (zJ S rfl (by first|exact .here|exact .there .here|exact .there (.there .here)|exact .there (.there (.there .here))|exact .there (.there (.there (.there .here)))|exact .there (.there (.there (.there (.there .here))))|exact .there (.there (.there (.there (.there (.there .here)))))|exact .there (.there (.there (.there (.there (.there (.there .here))))))|exact .there (.there (.there (.there (.there (.there (.there (.there .here)))))))|exact .there (.there (.there (.there (.there (.there (.there (.there (.there .here))))))))|exact .there (.there (.there (.there (.there (.there (.there (.there (.there (.there .here)))))))))|exact .there (.there (.there (.there (.there (.there (.there (.there (.there (.there (.there .here))))))))))|exact .there (.there (.there (.there (.there (.there (.there (.there (.there (.there (.there (.there .here)))))))))))) (by exact rfl) (zJ S rfl (by first|exact .here|exact .there .here|exact .there (.there .here)|exact .there (.there (.there .here))|exact .there (.there (.there (.there .here)))|exact .there (.there (.there (.there (.there .here))))|exact .there (.there (.there (.there (.there (.there .here)))))|exact .there (.there (.there (.there (.there (.there (.there .here))))))|exact .there (.there (.there (.there (.there (.there (.there (.there .here)))))))|exact .there (.there (.there (.there (.there (.there (.there (.there (.there .here))))))))|exact .there (.there (.there (.there (.there (.there (.there (.there (.there (.there .here)))))))))|exact .there (.there (.there (.there (.there (.there (.there (.there (.there (.there (.there .here))))))))))|exact .there (.there (.there (.there (.there (.there (.there (.there (.there (.there (.there (.there .here)))))))))))) (by exact rfl) (by exact rfl))),?_⟩;exact .inr ⟨i,e,hp,rfl,S.drop⟩
end Go.Proofs.Xx
namespace Go.Proofs.Xx
open Go Go.Proofs
variable [Flag]
end Go.Proofs.Xx
namespace Go.Proofs.Xx
open Go Go.Proofs
variable [Flag]
end Go.Proofs.Xx
namespace Go.Proofs.Xx
open Go Go.Proofs
def Xt (s:List UInt8):List UInt8:=if s=[] then [45] else s
def XR (n:Nat):List UInt8:=if h:n<10 then [UInt8.ofNat (48+n)] else XR (n / 10) ++ [UInt8.ofNat (48+n % 10)]
termination_by n
decreasing_by omega
theorem KX {n:Nat} (h:n<10):XR n=[UInt8.ofNat (48+n)]:=by rw [XR,dif_pos h]
theorem KW {n:Nat} (h:¬ n<10):XR n=XR (n / 10) ++ [UInt8.ofNat (48+n % 10)]:=by rw [XR,dif_neg h]
def d36:List UInt8:=[48,49,50,51,52,53,54,55,56,57,97,98,99,100,101,102,103,104,105,106,107,108,109,110,111,112,113,114,115,116,117,118,119,120,121,122]
def d100:List UInt8:=[48,48,48,49,48,50,48,51,48,52,48,53,48,54,48,55,48,56,48,57,49,48,49,49,49,50,49,51,49,52,49,53,49,54,49,55,49,56,49,57,50,48,50,49,50,50,50,51,50,52,50,53,50,54,50,55,50,56,50,57,51,48,51,49,51,50,51,51,51,52,51,53,51,54,51,55,51,56,51,57,52,48,52,49,52,50,52,51,52,52,52,53,52,54,52,55,52,56,52,57,53,48,53,49,53,50,53,51,53,52,53,53,53,54,53,55,53,56,53,57,54,48,54,49,54,50,54,51,54,52,54,53,54,54,54,55,54,56,54,57,55,48,55,49,55,50,55,51,55,52,55,53,55,54,55,55,55,56,55,57,56,48,56,49,56,50,56,51,56,52,56,53,56,54,56,55,56,56,56,57,57,48,57,49,57,50,57,51,57,52,57,53,57,54,57,55,57,56,57,57]
theorem qeb:∀ n,n<10→(d36.drop n).take (n+1 - n)=[UInt8.ofNat (48+n)]:=by decide +kernel
theorem qcZ:∀ n,n<100→(d100.drop (n*2)).take (n*2+2 - n*2)=[UInt8.ofNat (48+n / 10)] ++ [UInt8.ofNat (48+n % 10)]:=by decide +kernel
variable [Flag]
theorem YJ {h0:AH} (w:WfH h0) (s:List UInt8):Fn Tryz.prog Xh 111 [str s] h0 (fun v h'=>v=str (Xt s)∧Hs h0 h' []):=by
 have S:=Hs.start w;refine zF rfl Tryz.func111 rfl rfl ?_;all_goals (repeat' (first|refine qx ?_|refine qi rfl ?_|refine qw ?_|refine qA ?_|refine qh ?_|refine qj ?_|refine qo ?_|(refine qf 0 ?_;refine mv ?_;refine qg ?_)|(refine qf 1 ?_;refine mv ?_;(refine tS ?_ ?_<;>intro hc)<;>(refine qg ?_))|(refine qf 2 ?_;refine mv ?_;refine qg ?_)|(refine qf 3 ?_;refine mv ?_;refine mv ?_;refine qg ?_)))
 ·refine qF ⟨_,rfl,?_⟩;rw [show Xt s=[45] by unfold Xt;rw [if_pos hc]];exact ⟨rfl,S⟩
 ·refine qF ⟨_,rfl,?_⟩;rw [show Xt s=s by unfold Xt;rw [if_neg hc]];exact ⟨rfl,S⟩
theorem qbe {h0:AH} (w:WfH h0) (n:Nat) (hn:n<100):Fn Tryz.prog Xh 202 [.int .i64 n] h0 (fun v h'=>v=str (XR n)∧Hs h0 h' []):=by
 have S:=Hs.start w;refine zF rfl Tryz.func202 rfl rfl ?_;all_goals (repeat' (first|refine qx ?_|refine qi rfl ?_|refine qw ?_|refine qA ?_|refine qh ?_|refine qj ?_|refine qo ?_|(refine qf 0 ?_;refine mv ?_;refine qg ?_)|(refine qf 1 ?_;refine mv ?_;(first|refine cT ?_|refine cF ?_|(refine cS ?_ ?_<;>intro hc))<;>(refine qg ?_))))
 ·all_goals (repeat' (first|refine qx ?_|refine qi rfl ?_|refine qw ?_|refine qA ?_|refine qh ?_|refine qj ?_|refine qo ?_|(refine qf 2 ?_;refine mv ?_;refine mv ?_;(first|refine ad ?_|refine vl ?_))))
  rw [show ((n:Int)+1)=((n+1:Nat):Int) by omega];refine kS (l:=d36) (a:=n) (b:=n+1) ?_ rfl rfl rfl rfl rfl rfl rfl rfl ⟨by omega,by rw [show d36.length=36 from rfl];omega⟩;rw [show (d36.drop n).take (n+1 - n)=XR n by rw [KX (by omega)];exact qeb n (by omega)];(refine mv ?_;refine qg ?_);all_goals (repeat' (first|refine qx ?_|refine qi rfl ?_|refine qw ?_|refine qA ?_|refine qh ?_|refine qj ?_|refine qo ?_|(refine qf 0 ?_;refine mv ?_;refine qg ?_)|(refine qf 1 ?_;refine mv ?_;(first|refine cT ?_|refine cF ?_|(refine cS ?_ ?_<;>intro hc))<;>(refine qg ?_))|(refine qf 2 ?_;refine mv ?_;refine mv ?_;(first|refine ad ?_|refine vl ?_))|(refine qf 3 ?_;refine mv ?_;(first|refine ml ?_|refine vl ?_);refine mv ?_;(first|refine ml ?_|refine vl ?_);(first|refine ad ?_|refine vl ?_))))
  refine qF ⟨_,rfl,?_⟩;exact ⟨rfl,S⟩
 ·all_goals (repeat' (first|refine qx ?_|refine qi rfl ?_|refine qw ?_|refine qA ?_|refine qh ?_|refine qj ?_|refine qo ?_|(refine qf 3 ?_;refine mv ?_;(first|refine ml ?_|refine vl ?_);refine mv ?_;(first|refine ml ?_|refine vl ?_);(first|refine ad ?_|refine vl ?_))))
  rw [show ((n:Int)*2+2)=((n*2+2:Nat):Int) by omega,show ((n:Int)*2)=((n*2:Nat):Int) by omega];refine kS (l:=d100) (a:=n*2) (b:=n*2+2) ?_ rfl rfl rfl rfl rfl rfl rfl rfl ⟨by omega,by rw [show d100.length=200 by decide +kernel];omega⟩;rw [show (d100.drop (n*2)).take (n*2+2 - n*2)=XR n by rw [KW (by omega),KX (by omega)];exact qcZ n hn];(refine mv ?_;refine qg ?_);all_goals (repeat' (first|refine qx ?_|refine qi rfl ?_|refine qw ?_|refine qA ?_|refine qh ?_|refine qj ?_|refine qo ?_))
  refine qF ⟨_,rfl,?_⟩;exact ⟨rfl,S⟩
end Go.Proofs.Xx
namespace Go.Proofs.Xx
open Go Go.Proofs
section
variable {P:Program} {X:Extern} {ops:Array Oper} {os:List Oper} {o:Oper} {sz:Nat} {h h0:AH} {rs:List Rs} {R:Ks→AH→Prop}
inductive HSteps (P:Program) (ops:Array Oper) (sz:Nat) (h:AH):Ks→List Nat→Ks→Prop where
 | nil {L:Ks}:HSteps P ops sz h L [] L
 | cons {L L1 L':Ks} {k:Nat} {ks:List Nat} {ok:Oper} {v:Value} {h':AH} (hok:ops[k]? = some ok) (hg:qC ops L.tree ok.guard=some true) (ha:zZ P L.tree h ok.op=some (.val v h')) (hd:qL sz L ok.dst v=some L1) (r:HSteps P ops sz h L1 ks L'):HSteps P ops sz h L (k :: ks) L'
theorem HSteps.mv {L L1 L':Ks} {k:Nat} {ks:List Nat} {ok:Oper} {v:Value} {x:Operand} (hok:ops[k]? = some ok) (hm:ok.op = .move x) (hx:kA L x=some v) (hg:qC ops L.tree ok.guard=some true) (hd:qL sz L ok.dst v=some L1) (r:HSteps P ops sz h L1 ks L'):HSteps P ops sz h L (k :: ks) L' :=
 .cons (h':=h) hok hg (by rw [hm];simp only [zZ,qG hx,qO]) hd r
theorem HSteps.cU {L L1 L':Ks} {k:Nat} {ks:List Nat} {ok:Oper} {x:Operand} {s d:TypeId} {k1 k2:IntKind} {a:Int} (hb:0≤a∧a≤255) (hok:ops[k]? = some ok) (hm:ok.op = .convert s d x) (hx:kA L x=some (.int k1 a)) (hs:P.underlying s=some (.int k2)) (hd':P.underlying d=some (.int .u8)) (hg:qC ops L.tree ok.guard=some true) (hd:qL sz L ok.dst (.int .u8 a)=some L1) (r:HSteps P ops sz h L1 ks L'):HSteps P ops sz h L (k :: ks) L' :=
 .cons (h':=h) hok hg (by rw [hm];simp only [zZ,qG hx,zQ,hs,hd',wrap_u8 hb]) hd r
theorem HSteps.run {L L':Ks} {ks:List Nat} (s:HSteps P ops sz h L ks L'):∀ {t:Tr Value},Kn t L→Kn (ks.foldl (yC P ops sz h) t) L':=by
 induction s with
 | nil=>intro t hk;exact hk
 | @cons _ _ _ k _ _ _ _ hok hg ha hd r ih =>
  intro t hk;obtain ⟨t1,e1,k1⟩:=XE hk hd;rw [List.foldl_cons];have:yC P ops sz h t k=t1:=by
   unfold yC;simp only [hok,jG hk.tle hg,Vs hk.tle ha,e1]
  rw [this];exact ih k1
theorem HintOk.many {L L':Ks} {j:Nat} {ks:List Nat} {o:Oper} {x:Option Nat} {c:List Value} {e:TypeId} (hp:vX ops (masks ops.toList []) j=ks) (ho:ops[j]? = some o) (s:HSteps P ops sz h L ks L') (hf:jV P L'.tree o.op=some (x,c,e)):HintOk P ops sz L h j c e:=fun t hk=>by
 unfold XH;rw [ho,hp];simp only [XN (s.run hk).tle hf]
end
variable [Flag]
end Go.Proofs.Xx
namespace Go.Proofs.Xx
open Go Go.Proofs
def WW:List (List UInt8)→List UInt8
 | []=>[]
 | [w]=>w
 | w :: u :: r=>w ++ 32 :: WW (u :: r)
theorem qbc:∀ {ws:List (List UInt8)},ws≠[]→(∀ w∈ws,(32:UInt8) ∉ w)→jm 32 (WW ws)=ws
 | [],h,_=>absurd rfl h
 | [w],_,k=>Jl (k w (by simp))
 | w :: u :: r,_,k=>by
  rw [WW,YA (k w (by simp)),qbc (by simp) (fun x hx=>k x (List.mem_cons_of_mem _ hx))]
theorem PW {c:UInt8} (hc:c≠32):∀ {ws:List (List UInt8)},(∀ w∈ws,c ∉ w)→c ∉ WW ws
 | [],_=>by simp [WW]
 | [w],k=>k w (by simp)
 | w :: u :: r,k=>by
  have h1:=k w (by simp);have h2:=PW hc (ws:=u :: r) fun x hx=>k x (List.mem_cons_of_mem _ hx);rw [WW,zB8,zE8];rintro (q|q|q)
  ·exact h1 q
  ·exact hc q
  ·exact h2 q
theorem qbG {n:Nat}:∀ {ws:List (List UInt8)},(∀ w∈ws,w.length≤n)→(WW ws).length≤(n+1)*ws.length
 | [],_=>by simp [WW]
 | [w],k=>by have:=k w (by simp);simp [WW];omega
 | w :: u :: r,k=>by
  have h1:=k w (by simp);have h2:=qbG (ws:=u :: r) fun x hx=>k x (List.mem_cons_of_mem _ hx);rw [WW,zB2,zC4,zC4 (a:=w),Nat.mul_add];omega
def gW (w:List UInt8):Prop:=w≠[]∧∀ x∈w,45≤x.toNat
theorem gW.free {w:List UInt8} (h:gW w) {c:UInt8} (hc:c.toNat<45):c ∉ w:=fun q=>by have:=h.2 c q;omega
theorem PS {ws:List (List UInt8)} (h:ws≠[]) (k:∀ w∈ws,gW w):(10:UInt8) ∉ WW ws∧WW ws≠[]∧∀ r,QL r (WW ws ++ [10])=QD r ws:=by
 have e:=qbc h fun w hw=>(k w hw).free (by decide);refine ⟨PW (by decide) fun w hw=>(k w hw).free (by decide),fun q=>?_,fun r=>?_⟩
 ·rw [q] at e;have:([]:List UInt8)∈ws:=by rw [← e];simp [jm]
  exact (k _ this).1 rfl
 ·rw [qdg (by rw [e];exact fun q=>(k _ q).1 rfl),e]
theorem nameP.low {s:List UInt8} (h:nameP s):∀ x∈s,VZ x:=fun x hx=>by
 obtain ⟨i,hi,rfl⟩:=qM.1 hx;exact h.2.2 i hi
theorem nameP.gW {s:List UInt8} (h:nameP s):gW s:=⟨fun q=>by have:=h.1;rw [q] at this;simp at this,fun x hx=>by have:=h.low x hx;unfold VZ at this;omega⟩
theorem WA {s:List UInt8} (h:VJ s):Xx.gW (Xt s)∧(Xt s).length≤12∧Qy (Xt s)=s:=by
 rcases h with rfl|h
 ·refine ⟨⟨by decide,by decide⟩,by decide,by decide⟩
 ·have hn:s≠[]:=h.gW.1;have e:Xt s=s:=by unfold Xt;rw [if_neg hn]
  rw [e];refine ⟨h.gW,h.2.1,?_⟩;unfold Qy;rw [if_neg];rintro rfl;have:=h.low 45 (by simp);unfold VZ at this;exact absurd this (by decide)
theorem u8t {n:Nat} (h:n<256):(UInt8.ofNat n).toNat=n:=by rw [UInt8.toNat_ofNat',Nat.mod_eq_of_lt h]
theorem wQ:∀ n:Nat,(∀ x∈XR n,YT x)∧Ja (XR n)=n∧1≤(XR n).length∧(n≠0→(XR n).getD 0 default≠48):=by
 intro n;induction n using Nat.strongRecOn with
 | _ n ih =>
 by_cases h:n<10
 ·have e:=u8t (show 48+n<256 by omega);rw [KX h];refine ⟨fun x hx=>?_,?_,by simp,fun h0 q=>?_⟩
  ·rw [zB5.1 hx];unfold YT;rw [e];omega
  ·show 10*0+((UInt8.ofNat (48+n)).toNat - 48)=n
   rw [e];omega
  ·have:=congrArg UInt8.toNat (show UInt8.ofNat (48+n)=48 from q);rw [e] at this;have h8:(48:UInt8).toNat=48:=rfl;omega
 ·obtain ⟨i1,i2,i3,i4⟩:=ih (n / 10) (by omega);have e:=u8t (show 48+n % 10<256 by omega);rw [KW h];refine ⟨fun x hx=>?_,?_,by simp,fun h0 q=>?_⟩
  ·rcases zB8.1 hx with hx|hx
   ·exact i1 x hx
   ·rw [zB5.1 hx];unfold YT;rw [e];omega
  ·rw [yz,i2,e];omega
  ·refine i4 (by omega) ?_;rw [zA2,zH8 (by omega),← zA2] at q;exact q
theorem qbT:∀ (k n:Nat),n<10 ^ (k+1)→(XR n).length≤k+1
 | 0,n,h=>by rw [KX (by omega)];simp
 | k+1,n,h=>by
  by_cases q:n<10
  ·rw [KX q];simp
  ·rw [KW q,zB2,zD5];have:=qbT k (n / 10) (by rw [Nat.pow_succ] at h;omega);omega
theorem P8 {n:Nat} (h:n<10000):qbt (XR n)∧(XR n).length≤4∧gW (XR n):=by
 obtain ⟨i1,i2,i3,i4⟩:=wQ n;have hl:=qbT 3 n (by omega);refine ⟨⟨i3,by omega,fun h1=>i4 fun q=>?_,fun i hi=>i1 _ (qJ hi)⟩,hl,fun q=>by rw [q] at i3;simp at i3,fun x hx=>?_⟩
 ·rw [q,KX (by omega)] at h1;simp at h1
 ·have:=i1 x hx;unfold YT at this;omega
def flg (g:Gu):List UInt8:=(if g.host then [104] else []) ++ (if g.access then [97] else [])
theorem qd6 (g:Gu):gW (Xt (flg g))∧(Xt (flg g)).length≤12∧VT (Xt (flg g))∧decide (Xt (flg g)=[104]∨Xt (flg g)=[104,97])=g.host∧decide (Xt (flg g)=[97]∨Xt (flg g)=[104,97])=g.access:=by
 unfold flg gW;cases g.host<;>cases g.access<;>decide
def kN (g:Gu):List (List UInt8):=Zw :: g.name :: Xt g.rank :: Xt g.court :: XR g.since.toNat :: XR g.side.toNat :: Xt g.diet :: Xt (flg g) :: g.tg
theorem qa4:gW Zw∧gW jW∧gW JY:=by refine ⟨⟨by decide,by decide⟩,⟨by decide,by decide⟩,by decide,by decide⟩
theorem qbI {g:Gu} (hc:Qg g=0):(∀ w∈kN g,gW w∧w.length≤12)∧GP (kN g)∧JK (kN g)=g∧(kN g).length≤12:=by
 obtain ⟨⟨n1,n2,n3,n4⟩,⟨s1,s2⟩,⟨d1,d2⟩,t1,t2⟩:=ZZ hc;obtain ⟨f1,f2,f3,f4,f5⟩:=qd6 g;obtain ⟨r1,r2,r3⟩:=WA n2;obtain ⟨c1,c2,c3⟩:=WA n3;obtain ⟨e1,e2,e3⟩:=WA n4;obtain ⟨x1,x2,x3⟩:=P8 (show g.since.toNat<10000 by omega);obtain ⟨y1,y2,y3⟩:=P8 (show g.side.toNat<10000 by omega);refine ⟨fun w hw=>?_,⟨by simp only [kN,zC4];omega,x1,y1,f3⟩,?_,by simp only [kN,zC4];omega⟩
 ·simp only [kN,zE8] at hw;rcases hw with rfl|rfl|rfl|rfl|rfl|rfl|rfl|rfl|hw
  ·exact ⟨qa4.1,by decide⟩
  ·exact ⟨n1.gW,n1.2.1⟩
  ·exact ⟨r1,r2⟩
  ·exact ⟨c1,c2⟩
  ·exact ⟨x3,by omega⟩
  ·exact ⟨y3,by omega⟩
  ·exact ⟨e1,e2⟩
  ·exact ⟨f1,f2⟩
  ·obtain ⟨i,hi,rfl⟩:=qM.1 hw;exact ⟨(t2 i hi).1.gW,(t2 i hi).1.2.1⟩
 ·obtain ⟨nm,rk,ct,sn,sd,dt,ho,ac,tg⟩:=g;show Gu.mk nm (Qy (Xt rk)) (Qy (Xt ct)) (Ja (XR sn.toNat)) (Ja (XR sd.toNat)) (Qy (Xt dt)) (decide _) (decide _) tg=_
  dsimp only at *;have q1:=(wQ sn.toNat).2.1;have q2:=(wQ sd.toNat).2.1;rw [r3,c3,e3,q1,q2];congr 1
  ·omega
  ·omega
def JJ (g:Gu):List UInt8:=WW (kN g)
def tws (t:Ti):List (List UInt8):=[if t.k=1 then jW else JY,t.a,t.b]
def XQ (t:Ti):List UInt8:=WW (tws t)
def txt (l:List (List UInt8)):List UInt8:=(l.map (· ++ [10])).flatten
def QK (r:Rl):List (List UInt8):=r.us.map JJ ++ r.ts.map XQ
def fmt (r:Rl):List UInt8:=txt (QK r)
theorem Xc (w:List UInt8) (l:List (List UInt8)):txt (w :: l)=w ++ 10 :: txt l:=by simp [txt]
theorem vP:∀ {l:List (List UInt8)},(∀ w∈l,(10:UInt8) ∉ w)→jm 10 (txt l)=l ++ [[]]
 | [],_=>rfl
 | w :: l,k=>by
  rw [Xc,YA (k w (by simp)),vP fun x hx=>k x (List.mem_cons_of_mem _ hx)];rfl
theorem Y4 {n:Nat}:∀ {l:List (List UInt8)},(∀ w∈l,w.length+1≤n)→(txt l).length≤n*l.length
 | [],_=>by simp [txt]
 | w :: l,k=>by
  have h1:=k w (by simp);have h2:=Y4 (l:=l) fun x hx=>k x (List.mem_cons_of_mem _ hx);rw [Xc,zB2,zC4,zC4,Nat.mul_add];omega
theorem WR {g:Gu} (hc:Qg g=0):(10:UInt8) ∉ JJ g∧JJ g≠[]∧(JJ g).length≤156∧∀ r,QL r (JJ g ++ [10])=J9 r g:=by
 obtain ⟨h1,h2,h3,h4⟩:=qbI hc;obtain ⟨l1,l2,l3⟩:=PS (ws:=kN g) (by simp [kN]) fun w hw=>(h1 w hw).1;have h5:=qbG (n:=12) (ws:=kN g) fun w hw=>(h1 w hw).2;refine ⟨l1,l2,by unfold JJ;omega,fun r=>?_⟩;rw [JJ,l3,VP rfl h2,h3]
theorem wB {t:Ti} (ha:nameP t.a) (hb:nameP t.b) (hk:t.k=1∨t.k=2):(10:UInt8) ∉ XQ t∧XQ t≠[]∧(XQ t).length≤39∧∀ r,QL r (XQ t ++ [10])=QZ r t.a t.b t.k:=by
 have h1:∀ w∈tws t,gW w∧w.length≤12:=fun w hw=>by
  simp only [tws,zE8,List.not_mem_nil,or_false] at hw;rcases hw with rfl|rfl|rfl
  ·split
   ·exact ⟨qa4.2.1,by decide⟩
   ·exact ⟨qa4.2.2,by decide⟩
  ·exact ⟨ha.gW,ha.2.1⟩
  ·exact ⟨hb.gW,hb.2.1⟩
 obtain ⟨l1,l2,l3⟩:=PS (ws:=tws t) (by simp [tws]) fun w hw=>(h1 w hw).1;have h5:=qbG (n:=12) (ws:=tws t) fun w hw=>(h1 w hw).2;refine ⟨l1,l2,by unfold XQ;simp only [tws,zC4,List.length_nil] at h5 ⊢;omega,fun r=>?_⟩;rw [XQ,l3];rcases hk with hk|hk
 ·rw [YH (by show (if t.k=1 then jW else JY)=_;rw [if_pos hk]) rfl,hk];rfl
 ·rw [WS (by show (if t.k=1 then jW else JY)=_;rw [if_neg (by omega)]) rfl,hk];rfl
theorem G7:∀ (us us0:List Gu) (i:Nat) (l:List (List UInt8)),(∀ g∈us,Qg g=0)→((us0 ++ us).map (·.name)).Nodup→(us0 ++ us).length≤64→ZC ⟨us0,[]⟩ i (us.map (fun g=>JJ g ++ [10]) ++ l)=ZC ⟨us0 ++ us,[]⟩ (i+us.length) l
 | [],us0,i,l,_,_,_=>by simp
 | g :: us,us0,i,l,h1,h2,h3=>by
  have e:QL ⟨us0,[]⟩ (JJ g ++ [10])=(⟨us0 ++ [g],[]⟩,0):=by
   rw [(WR (h1 g (by simp))).2.2.2];refine wX (h1 g (by simp)) (Q5.2 fun x hx q=>?_) (by show ¬ 64≤us0.length;simp at h3;omega);rw [zC9,zG4] at h2;exact h2.2.2 x.name (zF1.2 ⟨x,hx,rfl⟩) g.name (by simp) q
  rw [List.map_cons,zC6,XF (by rw [e]),e];have k:=G7 us (us0 ++ [g]) (i+1) l (fun x hx=>h1 x (List.mem_cons_of_mem _ hx)) (by simpa using h2) (by simpa using h3);rw [k];simp only [zF2,List.singleton_append,zC4];congr 1
  omega
theorem G8 (us:List Gu):∀ (ts ts0:List Ti) (i:Nat),TS (ts0 ++ ts)→(ts0 ++ ts).length≤256→(∀ t∈ts,jk t.a t.b∧(t.k=1∨t.k=2)∧nameP t.a∧nameP t.b) →
 ((∀ t∈ts,gat us t.a≠none∧gat us t.b≠none)∧ZC ⟨us,ts0⟩ i (ts.map fun t=>XQ t ++ [10]) = .ok ⟨us,ts0 ++ ts⟩)∨((∃ t∈ts,gat us t.a=none∨gat us t.b=none)∧∃ j,ZC ⟨us,ts0⟩ i (ts.map fun t=>XQ t ++ [10]) = .bad j 6)
 | [],ts0,i,_,_,_=>.inl ⟨fun t ht=>(by cases ht),(by simp [ZC])⟩
 | t :: ts,ts0,i,h1,h2,h3=>by
  obtain ⟨z1,z2,z3,z4⟩:=h3 t (by simp);have e:=(wB z3 z4 z2).2.2.2 ⟨us,ts0⟩;have n1:¬ ((t.k≠1∧t.k≠2)∨t.a=t.b):=by
   rintro (q|q)
   ·omega
   ·rw [q] at z1;exact zA _ z1
  by_cases q:gat us t.a=none∨gat us t.b=none
  ·refine .inr ⟨⟨t,by simp,q⟩,i,?_⟩;rw [vI n1 q] at e;rw [List.map_cons,YE (by rw [e];show (6:Int)≠0;decide),e]
  ·have hs:=h1;rw [TS,List.pairwise_append] at hs;have hb:∀ x∈ts0,Z4 x t:=fun x hx=>hs.2.2 x hx t (by simp);have n3:¬ tied ts0 t.a t.b:=by
    rw [kV z1];rintro ⟨x,hx,e1,e2⟩;rcases hb x hx with k|k
    ·rw [e1] at k;exact zA _ k
    ·rw [e2] at k;exact zA _ k.2
   have n4:¬ 256≤ts0.length:=by simp at h2;omega
   have e5:xX ts0 (Qc t.a t.b t.k)=ts0 ++ [t]:=by
    have:Qc t.a t.b t.k=t:=by unfold Qc;rw [Zl z1,Zm z1]
    rw [this,Xj (i:=ts0.length) ⟨zA3 _,fun j hj=>hb _ (qJ hj),fun j k1 k2=>by omega⟩];simp
   rw [Wq n1 q n3 n4] at e;dsimp only at e;rw [e5] at e;rw [List.map_cons,XF (by rw [e]),e];dsimp only;have ha:ts0 ++ t :: ts=(ts0 ++ [t]) ++ ts:=by simp
   rw [ha] at h1 h2 ⊢;rcases G8 us ts (ts0 ++ [t]) (i+1) h1 h2 fun x hx=>h3 x (List.mem_cons_of_mem _ hx) with ⟨k1,k2⟩|⟨⟨x,hx,k1⟩,k2⟩
   ·refine .inl ⟨fun x hx=>?_,k2⟩;rcases zE8.1 hx with rfl|hx
    ·exact ⟨fun w=>q (.inl w),fun w=>q (.inr w)⟩
    ·exact k1 x hx
   ·exact .inr ⟨⟨x,List.mem_cons_of_mem _ hx,k1⟩,k2⟩
theorem RO.names {r:Rl} (H:RO r):(r.us.map (·.name)).Nodup:=by
 rw [List.Nodup,List.pairwise_map,zD2];intro i j hi hj hij;have:=H.nd i j hij hj;rw [zA2,zA2,zA4 hj,zA4 hi] at this;exact this
theorem RO.tn {r:Rl} (H:RO r) {t:Ti} (ht:t∈r.ts):nameP t.a∧nameP t.b:=by
 obtain ⟨z1,z2,z3,z4⟩:=H.tt t ht;obtain ⟨g,hg,e⟩:=JM.1 z3;obtain ⟨g',hg',e'⟩:=JM.1 z4;rw [← e,← e'];exact ⟨(ZZ (H.chk g hg)).1.1,(ZZ (H.chk g' hg')).1.1⟩
theorem RO.lines {r:Rl} (H:RO r):∀ w∈QK r,(10:UInt8) ∉ w∧w≠[]∧w.length≤156:=fun w hw=>by
 rcases zB8.1 hw with hw|hw
 ·obtain ⟨g,hg,rfl⟩:=zF1.1 hw;obtain ⟨k1,k2,k3,-⟩:=WR (H.chk g hg);exact ⟨k1,k2,k3⟩
 ·obtain ⟨t,ht,rfl⟩:=zF1.1 hw;obtain ⟨k1,k2,k3,-⟩:=wB (H.tn ht).1 (H.tn ht).2 (H.tt t ht).2.1;exact ⟨k1,k2,by omega⟩
theorem RO.PR {r:Rl} (H:RO r):(QK r).length≤320:=by
 have h1:=H.l64;have h2:=H.l256;simp [QK];omega
theorem RO.wM {r:Rl} (H:RO r):(fmt r).length≤50240:=by
 have h1:=Y4 (n:=157) (l:=QK r) fun w hw=>by have:=(H.lines w hw).2.2;omega
 have h2:=H.PR;unfold fmt;omega
theorem Y9 {l:List (List UInt8)} (h:∀ w∈l,(10:UInt8) ∉ w) (hl:(txt l).length≤65536):QB (txt l)=ZC ⟨[],[]⟩ 0 (l.map (· ++ [10])):=by
 unfold QB;rw [if_neg (by omega),vP h,Y7]
theorem RO.parse {r:Rl} (H:RO r):QB (fmt r) = .ok r:=by
 rw [fmt,Y9 (fun w hw=>(H.lines w hw).1) (by have:=H.wM;unfold fmt at this;omega),QK,zC9,List.map_map,List.map_map];have k:=G7 r.us [] 0 (r.ts.map fun t=>XQ t ++ [10]) H.chk (by simpa using H.names) (by simpa using H.l64);refine k.trans ?_;rcases G8 r.us r.ts [] (0+r.us.length) (by simpa using H.ts) (by simpa using H.l256) fun t ht=>⟨(H.tt t ht).1,(H.tt t ht).2.1,(H.tn ht).1,(H.tn ht).2⟩ with ⟨-,k2⟩|⟨⟨t,ht,k1⟩,-⟩
 ·exact k2
 ·rcases k1 with k1|k1
  ·exact absurd k1 (H.tt t ht).2.2.1
  ·exact absurd k1 (H.tt t ht).2.2.2
abbrev bst (bb:Nat) (q v:Value):Rs:=.blk bb [q,v] 160
abbrev kP (v:Value) (l:List UInt8):Rs:=.sl v 5 1 eU (l.map UInt8.toNat)
def QP (bb:Nat) (q:Value):Prop:=q = .pointer none∨q = .pointer (some ⟨bb,0,none⟩)
def Gq (r:List (List UInt8)):List UInt8:=r.flatMap fun w=>32 :: w
theorem wF (w:List UInt8):∀ r:List (List UInt8),WW (w :: r)=w ++ Gq r
 | []=>by simp [WW,Gq]
 | u :: r=>by
  rw [WW,wF u r];simp [Gq]
theorem qa6 (r:List (List UInt8)) (w:List UInt8):Gq (r ++ [w])=Gq r ++ [32] ++ w:=by simp [Gq]
theorem qa7:∀ {r:List (List UInt8)},(∀ w∈r,w.length≤1000)→(Gq r).length≤1001*r.length
 | [],_=>by simp [Gq]
 | w :: r,k=>by
  have h1:=k w (by simp);have h2:=qa7 (r:=r) fun x hx=>k x (List.mem_cons_of_mem _ hx);have e:Gq (w :: r)=32 :: (w ++ Gq r):=by simp [Gq]
  rw [e,zC4,zB2,zC4];omega
variable [Flag]
theorem qbv {h0:AH} (v:Value):Fn Tryz.prog Xh 182 [v] h0 (fun r h'=>r=v∧h'=h0):=QJ rfl ⟨rfl,rfl⟩
theorem vk {h0 h:AH} {rs:List Rs} {bb:Nat} {q v:Value} (S:Hs h0 h (bst bb q v :: rs)) (hq:QP bb q):Fn Tryz.prog Xh 144 [.pointer (some ⟨bb,0,none⟩)] h (fun r h'=>Hs h0 h' (bst bb (.pointer (some ⟨bb,0,none⟩)) v :: rs)):=by
 rcases hq with rfl|rfl
 ·refine zF rfl Tryz.func144 rfl rfl ?_;all_goals (repeat' (first|refine qx ?_|refine qi rfl ?_|refine qw ?_|refine qA ?_|refine qh ?_|refine qj ?_|refine qo ?_|(refine qf 0 ?_;refine mv ?_;refine vl ?_;(first|refine vl ?_|refine fB S ?_|refine fS S rfl rfl ?_|refine fA ?_);(first|refine lB S rfl rfl ?_|refine zh S rfl rfl ?_|refine zU S ?_|refine lH S ?_);refine vl ?_;refine qg ?_)))
  refine qf 1 ?_;refine mv ?_;refine mv ?_;refine pU1 (b:=bb) (c:=[.pointer none,v]) (e:=160) S.gB ?_;(refine qH rfl rfl rfl rfl rfl ((qbv _).mono ?_);rintro _ h ⟨rfl,rfl⟩)<;>(refine pU2 (b:=bb) (c:=[.pointer none,v]) (e:=160) S.gB ?_ (hc:=by kernel_rfl);((refine vl ?_;(first|refine vl ?_|refine fB S ?_|refine fS S rfl rfl ?_|refine fA ?_);(first|(refine sB S rfl rfl ?_;clear S;intro h S)|(refine J3 S rfl rfl ?_;clear S;intro h S));refine qg ?_)))
  all_goals (repeat' (first|refine qx ?_|refine qi rfl ?_|refine qw ?_|refine qA ?_|refine qh ?_|refine qj ?_|refine qo ?_|(refine qf 0 ?_;refine mv ?_;refine vl ?_;(first|refine vl ?_|refine fB S ?_|refine fS S rfl rfl ?_|refine fA ?_);(first|refine lB S rfl rfl ?_|refine zh S rfl rfl ?_|refine zU S ?_|refine lH S ?_);refine vl ?_;refine qg ?_)|(refine qf 1 ?_;refine mv ?_;refine mv ?_)|(refine qf 2 ?_;refine mv ?_;refine vl ?_;(first|refine vl ?_|refine fB S ?_|refine fS S rfl rfl ?_|refine fA ?_);(first|refine lB S rfl rfl ?_|refine zh S rfl rfl ?_|refine zU S ?_|refine lH S ?_);refine mv ?_;refine vl ?_;refine qg ?_)))
  refine ⟨_,rfl,?_⟩;exact S
 ·refine zF rfl Tryz.func144 rfl rfl ?_;all_goals (repeat' (first|refine qx ?_|refine qi rfl ?_|refine qw ?_|refine qA ?_|refine qh ?_|refine qj ?_|refine qo ?_|(refine qf 0 ?_;refine mv ?_;refine vl ?_;(first|refine vl ?_|refine fB S ?_|refine fS S rfl rfl ?_|refine fA ?_);(first|refine lB S rfl rfl ?_|refine zh S rfl rfl ?_|refine zU S ?_|refine lH S ?_);refine vl ?_;refine qg ?_)))
  refine qf 2 ?_;refine mv ?_;refine vl ?_;refine vl ?_;refine lB S rfl rfl ?_;refine mv ?_;refine pN ?_;refine qg ?_;all_goals (repeat' (first|refine qx ?_|refine qi rfl ?_|refine qw ?_|refine qA ?_|refine qh ?_|refine qj ?_|refine qo ?_|(refine qf 2 ?_;refine mv ?_;refine vl ?_;(first|refine vl ?_|refine fB S ?_|refine fS S rfl rfl ?_|refine fA ?_);(first|refine lB S rfl rfl ?_|refine zh S rfl rfl ?_|refine zU S ?_|refine lH S ?_);refine mv ?_;refine vl ?_;refine qg ?_)))
  refine ⟨_,rfl,?_⟩;exact S
theorem Zv {h0 h:AH} {rs:List Rs} {bb:Nat} {q v:Value} {l:List UInt8} (s:List UInt8) (S:Hs h0 h (bst bb q v :: kP v l :: rs)) (hq:QP bb q) (hl:l.length+s.length≤1000000):Fn Tryz.prog Xh 113 [.pointer (some ⟨bb,0,none⟩),str s] h
 (fun r h'=>∃ v',Hs h0 h' (bst bb (.pointer (some ⟨bb,0,none⟩)) v' :: kP v' (l ++ s) :: rs)):=by
 have hl':(l.map UInt8.toNat).length+s.length≤1000000:=by simpa using hl
 refine zF rfl Tryz.func113 rfl rfl ?_;all_goals (repeat' (first|refine qx ?_|refine qi rfl ?_|refine qw ?_|refine qA ?_|refine qh ?_|refine qj ?_|refine qo ?_|(refine qf 0 ?_;refine mv ?_;refine mv ?_;refine qg ?_)|(refine qf 1 ?_;refine mv ?_)))
 (refine qH rfl rfl rfl rfl rfl ((vk S hq).mono ?_);rintro _ h S2)<;>(replace S:=S2;clear S2;refine qg ?_)
 refine qx ?_;refine qf 2 ?_;refine mv ?_;refine mv ?_;refine vl ?_;refine vl ?_;refine lB S rfl rfl ?_;refine mv ?_;refine apS S rfl rfl ?_;clear S;intro v2 h S;obtain ⟨sv,rfl⟩:=(Rd.Zf S .here).qe5;refine vl ?_;(first|refine vl ?_|refine fB S ?_|refine fS S rfl rfl ?_|refine fA ?_);(first|(refine sB S rfl rfl ?_;clear S;intro h S)|(refine J3 S rfl rfl ?_;clear S;intro h S));refine qg ?_;all_goals (repeat' (first|refine qx ?_|refine qi rfl ?_|refine qw ?_|refine qA ?_|refine qh ?_|refine qj ?_|refine qo ?_|(refine qf 3 ?_;refine mv ?_;refine tl ?_;refine mv ?_;refine mv ?_;refine qg ?_)))
 refine qF ⟨_,rfl,?_⟩;rw [← zC9] at S;exact ⟨_,S.front (.there .here)⟩
theorem qab {h0 h:AH} {rs:List Rs} {bb:Nat} {q v:Value} {l:List UInt8} (S:Hs h0 h (bst bb q v :: kP v l :: rs)) (hl:0<l.length∧l.length≤1000000):Fn Tryz.prog Xh 115 [.pointer (some ⟨bb,0,none⟩)] h (fun r h'=>r=str l∧Hs h0 h' (bst bb q v :: rs)):=by
 have hl':(l.map UInt8.toNat).length=l.length:=by simp
 have hl2:(l.map UInt8.toNat).map UInt8.ofNat=l:=by
  rw [List.map_map];exact (List.map_congr_left fun a _=>by simp).trans (List.map_id _)
 refine zF rfl Tryz.func115 rfl rfl ?_;all_goals (repeat' (first|refine qx ?_|refine qi rfl ?_|refine qw ?_|refine qA ?_|refine qh ?_|refine qj ?_|refine qo ?_|(refine qf 0 ?_;refine mv ?_;refine qg ?_)))
 refine ji 1 ?_;refine mv ?_;refine vl ?_;refine vl ?_;refine lB S rfl rfl ?_;refine usd S (by omega) rfl rfl ?_;rintro b o cap rfl;refine mv ?_;refine vl ?_;refine vl ?_;refine lB S rfl rfl ?_;refine J5 S rfl rfl ?_;refine uns (l:=l.map UInt8.toNat) (cap:=cap) S ⟨by omega,by omega⟩ rfl rfl ?_;clear S;intro h S;rw [hl2];refine mv ?_;refine qg ?_;all_goals (repeat' (first|refine qx ?_|refine qi rfl ?_|refine qw ?_|refine qA ?_|refine qh ?_|refine qj ?_|refine qo ?_|(refine qf 0 ?_;refine mv ?_;refine qg ?_)|(refine ji 1 ?_;refine mv ?_;refine vl ?_;(first|refine vl ?_|refine fB S ?_|refine fS S rfl rfl ?_|refine fA ?_);(first|refine lB S rfl rfl ?_|refine zh S rfl rfl ?_|refine zU S ?_|refine lH S ?_))))
 refine qF ⟨_,rfl,?_⟩;exact ⟨rfl,S⟩
theorem qbJ {h0 h:AH} {rs:List Rs} {bb:Nat} {q:Value} (S:Hs h0 h (bst bb q (.slice none 0 0) :: rs)) (n:Nat) (hn:n≤1000000):Fn Tryz.prog Xh 183 [.pointer (some ⟨bb,0,none⟩),.int .i64 n] h (fun r h'=>∃ v',Hs h0 h' (bst bb q v' :: kP v' [] :: rs)):=by
 have hb:h.get bb=some (.cells [q,.slice none 0 0] 160 none false):=S.gB;have S1:Hs h0 (h.add (.cells [] 5 (some 1) false)) (kP (.slice (some ⟨h.next,0,none⟩) 0 0) [] :: bst bb q (.slice none 0 0) :: rs):=S.grow (fp:=fun b=>b=h.next) ((Ext.refl S.wf).add _) (.inr ⟨h.next,0,[],some 1,0,rfl,by rw [AH.qW,if_pos rfl],rfl,rfl,⟨zA3 _,zA3 _⟩,.inr rfl⟩) fun b hb=>by subst hb;exact ⟨zA3 _,zG0 _⟩
 have S2:=(S1.front (.there .here)).put (c':=[q,.slice (some ⟨h.next,0,none⟩) 0 0]) .here;have hk:Nat.ble n 281474976710656=true:=zB3 (by omega);refine QJ (v:=.tuple #[]) (h':=(h.add (.cells [] 5 (some 1) false)).put bb (.cells [q,.slice (some ⟨h.next,0,none⟩) 0 0] 160 none false)) ?_ ⟨_,S2⟩;show Jg _ 183 183 [.pointer (some ⟨bb,0,none⟩),.int .i64 (Int.ofNat n)] h=_
 unfold Jg;rw [show Nat.beq 183 183=true from rfl];simp only [hb,hk]
theorem qdu {h0 h:AH} {rs:List Rs} {bb:Nat} (S:Hs h0 h (bst bb (.pointer none) (.slice none 0 0) :: rs)) (n:Nat) (hn:1≤n∧n≤1000000):Fn Tryz.prog Xh 145 [.pointer (some ⟨bb,0,none⟩),.int .i64 n] h (fun r h'=>∃ v',Hs h0 h' (bst bb (.pointer (some ⟨bb,0,none⟩)) v' :: kP v' [] :: rs)):=by
 refine zF rfl Tryz.func145 rfl rfl ?_;all_goals (repeat' (first|refine qx ?_|refine qi rfl ?_|refine qw ?_|refine qA ?_|refine qh ?_|refine qj ?_|refine qo ?_|(refine qf 0 ?_;refine mv ?_)))
 (refine qH rfl rfl rfl rfl rfl ((vk S (.inl rfl)).mono ?_);rintro _ h S2)<;>(replace S:=S2;clear S2;refine qg ?_)
 all_goals (repeat' (first|refine qx ?_|refine qi rfl ?_|refine qw ?_|refine qA ?_|refine qh ?_|refine qj ?_|refine qo ?_|(refine qf 1 ?_;refine mv ?_;(first|refine cT ?_|refine cF ?_|(refine cS ?_ ?_<;>intro hc))<;>(refine qg ?_))))
 refine ji 3 ?_;refine mv ?_;refine vl ?_;refine vl ?_;refine lB S rfl rfl ?_;refine vl ?_;refine mv ?_;refine vl ?_;refine vl ?_;refine lB S rfl rfl ?_;refine vl ?_;(first|refine sb ?_|refine vl ?_);refine mv ?_;(first|refine cT ?_|refine cF ?_|(refine cS ?_ ?_<;>intro hc))<;>(refine qg ?_)
 all_goals (repeat' (first|refine qx ?_|refine qi rfl ?_|refine qw ?_|refine qA ?_|refine qh ?_|refine qj ?_|refine qo ?_|(refine qf 4 ?_;refine mv ?_;refine mv ?_)))
 (refine qH rfl rfl rfl rfl rfl ((qbJ S n (by omega)).mono ?_);rintro _ h ⟨v',S2⟩)<;>(replace S:=S2;clear S2;refine qg ?_)
 all_goals (repeat' (first|refine qx ?_|refine qi rfl ?_|refine qw ?_|refine qA ?_|refine qh ?_|refine qj ?_|refine qo ?_))
 refine ⟨_,rfl,?_⟩;exact ⟨_,S⟩
theorem qbh {h0:AH} (w:WfH h0) {v:Value} {l:List (List UInt8)} (r:Qk h0 v 1 eS l) (hcp:ZI v) (hl:2≤l.length∧l.length≤20) (hw:∀ u∈l,u.length≤1000):Fn Tryz.prog Xh 114 [v,str [32]] h0 (fun u h'=>u=str (WW l)∧Hs h0 h' []):=by
 have S:=Hs.start w;have hwi:∀ i,i<l.length→(l.getD i default).length≤1000:=fun i hi=>hw _ (qJ hi);have hq:(1:Int)<9223372036854775807 / ((l.length:Int) - 1):=by
  have:(2:Int)≤9223372036854775807 / ((l.length:Int) - 1):=Int.le_ediv_of_mul_le (by omega) (by omega);omega
 refine zF rfl Tryz.func114 rfl rfl ?_;all_goals (repeat' (first|refine qx ?_|refine qi rfl ?_|refine qw ?_|refine qA ?_|refine qh ?_|refine qj ?_|refine qo ?_|(refine qf 0 ?_;refine mv ?_;refine qg ?_)|(refine qf 1 ?_;refine mv ?_;(first|refine Zg S ?_|refine J5 S rfl rfl ?_);refine qg ?_)|(refine qf 2 ?_;(first|refine cT ?_|refine cF ?_|(refine cS ?_ ?_<;>intro hc))<;>(refine mv ?_;refine qg ?_))|(refine qf 4 ?_;(first|refine cT ?_|refine cF ?_|(refine cS ?_ ?_<;>intro hc))<;>(refine mv ?_;refine qg ?_))|(refine qf 6 ?_;refine mv ?_;refine qg ?_)|(refine qf 7 ?_;refine mv ?_;refine tl ?_;(first|refine cT ?_|refine cF ?_|(refine cS ?_ ?_<;>intro hc))<;>(refine qg ?_))|(refine qf 8 ?_;refine mv ?_;refine tl ?_;refine mv ?_;(first|refine Zg S ?_|refine J5 S rfl rfl ?_);(first|refine sb ?_|refine vl ?_);(first|refine qu ?_|refine vl ?_);(first|refine cT ?_|refine cF ?_|(refine cS ?_ ?_<;>intro hc))<;>(refine qg ?_))|(refine qf 10 ?_;refine mv ?_;refine mv ?_;refine tl ?_;refine mv ?_;(first|refine Zg S ?_|refine J5 S rfl rfl ?_);(first|refine sb ?_|refine vl ?_);(first|refine ml ?_|refine vl ?_);(first|refine ad ?_|refine vl ?_);refine mv ?_;refine qg ?_)|(refine qf 11 ?_;refine mv ?_;(first|refine Zg S ?_|refine J5 S rfl rfl ?_);refine mv ?_;refine qg ?_)))
 all_goals rw [show ((([32]:List UInt8).length:Nat):Int)=1 from rfl] at *
 all_goals (first|(exfalso;omega)|skip)
 refine zK (σ:=Nat×Nat) (fun (i,s) h'=>Hs h0 h' []∧i≤l.length∧1≤s∧s≤30+1000*i) (fun (i,s)=>l.length - i) (fun (i,s)=>[(0,v),(1,str [32]),(5,.int .i64 s),(39,v),(40,.int .i64 l.length),(41,.int .i64 i)]) (0,l.length - 1) zf ?_ ?_
 ·exact ⟨S,zB0 _,by omega,by omega⟩
 clear S;rintro ⟨i,s⟩ h ⟨S,i1,i2,i3⟩;all_goals (repeat' (first|refine qx ?_|refine qi rfl ?_|refine qw ?_|refine qA ?_|refine qh ?_|refine qj ?_|refine qo ?_|(refine qf 12 ?_;(first|refine cT ?_|refine cF ?_|(refine cS ?_ ?_<;>intro hc))<;>(refine qg ?_))))
 ·have hwq:=hwi i (by omega);all_goals (repeat' (first|refine qx ?_|refine qi rfl ?_|refine qw ?_|refine qA ?_|refine qh ?_|refine qj ?_|refine qo ?_|(refine qf 13 ?_;(first|refine Za S ?_|refine jQ S rfl rfl ?_);(first|refine lB S rfl rfl ?_|refine zh S rfl rfl ?_|refine zU S ?_|refine lH S ?_);refine mv ?_;refine qg ?_)|(refine qf 14 ?_;refine mv ?_;refine tl ?_;refine mv ?_;(first|refine sb ?_|refine vl ?_);(first|refine cT ?_|refine cF ?_|(refine cS ?_ ?_<;>intro hc))<;>(refine qg ?_))))
  all_goals (try simp only [zA0] at *)
  all_goals (first|(exfalso;omega)|skip)
  all_goals (repeat' (first|refine qx ?_|refine qi rfl ?_|refine qw ?_|refine qA ?_|refine qh ?_|refine qj ?_|refine qo ?_|(refine qf 16 ?_;refine mv ?_;refine mv ?_;refine tl ?_;(first|refine ad ?_|refine vl ?_);refine mv ?_;refine qg ?_)|(refine qf 17 ?_;(first|refine ad ?_|refine vl ?_);refine mv ?_;refine qg ?_)))
  refine ⟨(i+1,s+(l.getD i default).length),?_,?_,zf⟩
  ·show l.length - (i+1)<l.length - i;omega
  ·exact ⟨S,by omega,by omega,by omega⟩
 ·skip
  all_goals (repeat' (first|refine qx ?_|refine qi rfl ?_|refine qw ?_|refine qA ?_|refine qh ?_|refine qj ?_|refine qo ?_|(refine qf 18 ?_;(refine al S ?_;clear S;intro b h S);refine qg ?_)))
  obtain ⟨bb,hnm⟩:∃ x,x=b:=⟨_,rfl⟩;subst hnm;all_goals (repeat' (first|refine qx ?_|refine qi rfl ?_|refine qw ?_|refine qA ?_|refine qh ?_|refine qj ?_|refine qo ?_|(refine qf 19 ?_;refine mv ?_)))
  (refine qH rfl rfl rfl rfl rfl ((qdu S s (by omega)).mono ?_);rintro _ h ⟨v1,S2⟩)<;>(replace S:=S2;clear S2;refine qg ?_)
  all_goals (repeat' (first|refine qx ?_|refine qi rfl ?_|refine qw ?_|refine qA ?_|refine qh ?_|refine qj ?_|refine qo ?_|(refine qf 20 ?_;refine mv ?_;(first|refine Za S ?_|refine jQ S rfl rfl ?_);(first|refine lB S rfl rfl ?_|refine zh S rfl rfl ?_|refine zU S ?_|refine lH S ?_))))
  have hb1:([]:List UInt8).length+(l.getD 0 default).length≤1000000:=by have:=hwi 0 (by omega);simp only [List.length_nil];omega
  (refine qH rfl rfl rfl rfl rfl ((Zv (l.getD 0 default) S (.inr rfl) hb1).mono ?_);rintro _ h ⟨v2,S2⟩)<;>(replace S:=S2;clear S2;refine qg ?_)
  rw [zC0] at S;(repeat (refine qx ?_));refine qf 21 ?_;refine mv ?_;refine su0 1 l.length S w r hcp ?_;intro vq rq cq;have hlq:((l.drop 1).take (l.length - 1)).length=l.length - 1:=by simp
  (first|refine Zg S ?_|refine J5 S rfl rfl ?_);refine mv ?_;refine qg ?_;all_goals (repeat' (first|refine qx ?_|refine qi rfl ?_|refine qw ?_|refine qA ?_|refine qh ?_|refine qj ?_|refine qo ?_|(refine qf 21 ?_;refine mv ?_;(refine dr S rfl rfl ?_;clear S;intro vq S);(first|refine Zg S ?_|refine J5 S rfl rfl ?_);refine mv ?_;refine qg ?_)))
  rw [hlq];obtain ⟨q,hqd⟩:∃ q,q=(l.drop 1).take (l.length - 1):=⟨_,rfl⟩
  rw [← hqd] at rq hlq;have hqw:∀ u∈q,u.length≤1000:=fun u hu=>hw u (List.mem_of_mem_drop (List.mem_of_mem_take (hqd ▸ hu)));have hql:q=l.drop 1:=by rw [hqd];exact zF8 (by simp)
  have hl0:l=l.getD 0 default :: q:=by
   rw [hql];match l,hl with
   | a :: t,_=>rfl
  refine zK (σ:=Nat×Value) (fun (i,v3) h'=>Hs h0 h' [bst bb (.pointer (some ⟨bb,0,none⟩)) v3,kP v3 (l.getD 0 default ++ Gq (q.take i))]∧i≤q.length) (fun (i,v3)=>q.length - i) (fun (i,v3)=>[(1,str [32]),(8,.pointer (some ⟨bb,0,none⟩)),(63,vq),(64,.int .i64 ((l.length - 1:Nat):Int)),(65,.int .i64 i)]) (0,v2) zf ?_ ?_
  ·exact ⟨by rw [List.take_zero];simpa [Gq] using S,zB0 _⟩
  clear S;rintro ⟨i,v3⟩ h ⟨S,i1⟩;have hT:=qa7 (r:=q.take i) fun u hu=>hqw u (List.mem_of_mem_take hu);have hT2:(q.take i).length≤20:=by simp;omega
  have h0w:=hwi 0 (by omega);all_goals (repeat' (first|refine qx ?_|refine qi rfl ?_|refine qw ?_|refine qA ?_|refine qh ?_|refine qj ?_|refine qo ?_|(refine qf 22 ?_;(first|refine cT ?_|refine cF ?_|(refine cS ?_ ?_<;>intro hc))<;>(refine qg ?_))))
  ·have hiq:i<q.length:=by omega
   have hwq:=hqw _ (qJ hiq);all_goals (repeat' (first|refine qx ?_|refine qi rfl ?_|refine qw ?_|refine qA ?_|refine qh ?_|refine qj ?_|refine qo ?_|(refine qf 23 ?_;(first|refine Za S ?_|refine jQ S rfl rfl ?_);(first|refine lB S rfl rfl ?_|refine zh S rfl rfl ?_|refine zU S ?_|refine lH S ?_);refine mv ?_;refine qg ?_)|(refine qf 24 ?_;refine mv ?_)))
   have hb2:(l.getD 0 default ++ Gq (q.take i)).length+([32]:List UInt8).length≤1000000:=by rw [zB2];simp only [zC4,List.length_nil];omega
   have hb3:(l.getD 0 default ++ Gq (q.take i) ++ [32]).length+(q.getD i default).length≤1000000:=by simp only [zB2,zC4,List.length_nil];omega
   (refine qH rfl rfl rfl rfl rfl ((Zv [32] S (.inr rfl) hb2).mono ?_);rintro _ h ⟨v4,S2⟩)<;>(replace S:=S2;clear S2;refine qg ?_)
   all_goals (repeat' (first|refine qx ?_|refine qi rfl ?_|refine qw ?_|refine qA ?_|refine qh ?_|refine qj ?_|refine qo ?_|(refine qf 25 ?_;refine mv ?_)))
   (refine qH rfl rfl rfl rfl rfl ((Zv (q.getD i default) S (.inr rfl) hb3).mono ?_);rintro _ h ⟨v5,S2⟩)<;>(replace S:=S2;clear S2;refine qg ?_)
   all_goals (repeat' (first|refine qx ?_|refine qi rfl ?_|refine qw ?_|refine qA ?_|refine qh ?_|refine qj ?_|refine qo ?_|(refine qf 26 ?_;(first|refine ad ?_|refine vl ?_);refine mv ?_;refine qg ?_)))
   refine ⟨(i+1,v5),?_,?_,zf⟩
   ·show q.length - (i+1)<q.length - i;omega
   ·refine ⟨?_,by omega⟩;rw [zq hiq,qa6,← zF2,← zF2];exact S
  ·obtain rfl:i=q.length:=by omega
   rw [zD4,← wF,← hl0] at S;have hjl:0<(WW l).length:=by
    rw [hl0,wF];cases q with
    | nil=>exfalso;simp only [List.length_nil] at hlq;omega
    | cons a t=>simp only [Gq,zG2,zB2,zC4];omega
   have hjm:(WW l).length≤1000000:=by rw [hl0,wF,zB2];rw [zD4] at hT hT2;omega
   all_goals (repeat' (first|refine qx ?_|refine qi rfl ?_|refine qw ?_|refine qA ?_|refine qh ?_|refine qj ?_|refine qo ?_|(refine qf 27 ?_;skip)))
   (refine qH rfl rfl rfl rfl rfl ((qab S ⟨hjl,hjm⟩).mono ?_);rintro _ h ⟨rfl,S2⟩)<;>(replace S:=S2;clear S2;refine mv ?_;refine qg ?_)
   all_goals (repeat' (first|refine qx ?_|refine qi rfl ?_|refine qw ?_|refine qA ?_|refine qh ?_|refine qj ?_|refine qo ?_|(refine qf 27 ?_;skip)))
   refine qF ⟨_,rfl,?_⟩;exact ⟨rfl,S.drop⟩
end Go.Proofs.Xx
namespace Go.Proofs.Xx
open Go Go.Proofs
section
variable {P:Program} {X:Extern} {sz:Nat} {L L':Ks} {h:AH} {ops:Array Oper} {os:List Oper} {o:Oper} {R:Ks→AH→Prop}
theorem wrap_u32 {n:Int} (h:0≤n∧n≤4294967295):IntKind.u32.wrap n=n:=wR (by simpa [IntKind.min,IntKind.max,IntKind.signed,IntKind.bits] using h)
theorem qdO {x y:Operand} {ty ty2:TypeId} {a b:Int} (w:KO P X sz ops os L' h R) (ho:o.op = .binOp .rem ty x y ty2:=by exact rfl) (hg:qC ops L.tree o.guard=some true:=by exact rfl) (hx:kA L x=some (.int .u32 a):=by exact rfl) (hy:kA L y=some (.int .u32 b):=by exact rfl)
 (hb:0≤a∧0<b:=by omega) (hp:qL sz L o.dst (.int .u32 (a % b))=some L':=by exact rfl):KO P X sz ops (o :: os) L h R :=
 zS ho hg hx hy (by
  have h1:¬ b=0:=by omega
  have h2:a.tmod b=a % b:=Int.tmod_eq_emod_of_nonneg hb.1;simp only [Qi,decide_true,decide_eq_false h1,h2]) hp w
theorem qdS {x y:Operand} {ty ty2:TypeId} {a b:Int} (w:KO P X sz ops os L' h R) (ho:o.op = .binOp .quo ty x y ty2:=by exact rfl) (hg:qC ops L.tree o.guard=some true:=by exact rfl) (hx:kA L x=some (.int .u32 a):=by exact rfl) (hy:kA L y=some (.int .u32 b):=by exact rfl)
 (hb:0≤a∧a≤4294967295∧0<b:=by omega) (hp:qL sz L o.dst (.int .u32 (a / b))=some L':=by exact rfl):KO P X sz ops (o :: os) L h R :=
 zS ho hg hx hy (by
  have h1:¬ b=0:=by omega
  have h2:a.tdiv b=a / b:=Int.tdiv_eq_ediv_of_nonneg hb.1;have h3:0≤a / b:=Int.ediv_nonneg hb.1 (by omega);have h4:a / b≤a:=Int.ediv_le_self _ hb.1;simp only [Qi,decide_true,decide_eq_false h1,h2,wrap_u32 ⟨h3,(by omega:a / b≤4294967295)⟩]) hp w
theorem qdY {x y:Operand} {ty ty2:TypeId} {a b:Int} (w:KO P X sz ops os L' h R) (ho:o.op = .binOp .mul ty x y ty2:=by exact rfl) (hg:qC ops L.tree o.guard=some true:=by exact rfl) (hx:kA L x=some (.int .u32 a):=by exact rfl) (hy:kA L y=some (.int .u32 b):=by exact rfl)
 (hb:0≤a*b∧a*b≤4294967295:=by omega) (hp:qL sz L o.dst (.int .u32 (a*b))=some L':=by exact rfl):KO P X sz ops (o :: os) L h R :=
 zS ho hg hx hy (by simp only [Qi,decide_true,wrap_u32 hb]) hp w
theorem qdj {x y:Operand} {ty ty2:TypeId} {a b:Int} (w:KO P X sz ops os L' h R) (ho:o.op = .binOp .add ty x y ty2:=by exact rfl) (hg:qC ops L.tree o.guard=some true:=by exact rfl) (hx:kA L x=some (.int .u32 a):=by exact rfl) (hy:kA L y=some (.int .u32 b):=by exact rfl)
 (hb:0≤a+b∧a+b≤4294967295:=by omega) (hp:qL sz L o.dst (.int .u32 (a+b))=some L':=by exact rfl):KO P X sz ops (o :: os) L h R :=
 zS ho hg hx hy (by simp only [Qi,decide_true,wrap_u32 hb]) hp w
theorem qe9 {x:Operand} {s d:TypeId} {k1 k2:IntKind} {a:Int} (w:KO P X sz ops os L' h R) (ho:o.op = .convert s d x:=by exact rfl) (hg:qC ops L.tree o.guard=some true:=by exact rfl) (hx:kA L x=some (.int k1 a):=by exact rfl) (hs:P.underlying s=some (.int k2):=by exact rfl) (hd:P.underlying d=some (.int .u32):=by exact rfl)
 (hb:0≤a∧a≤4294967295:=by omega) (hp:qL sz L o.dst (.int .u32 a)=some L':=by exact rfl):KO P X sz ops (o :: os) L h R :=
 zi (v:=.int .u32 a) hg (by rw [ho];simp only [zZ,qG hx,zQ,hs,hd,wrap_u32 hb]) hp w
theorem slA {x lo hi:Operand} {vl vr:Value} {ty e' e:TypeId} {b m l r z:Nat} {c:List Value} (hb:h.get b=some (.cells c e none false))
 (w:KO P X sz ops os L' h R) (ho:o.op = .slice ty x (some lo) (some hi) none:=by exact rfl) (hg:qC ops L.tree o.guard=some true:=by exact rfl) (hx:kA L x=some (.pointer (some ⟨b,0,none⟩)):=by exact rfl)
 (h1:kA L lo=some vl:=by exact rfl) (h2:kA L hi=some vr:=by exact rfl) (b1:qR (some vl) 0=some l:=by exact rfl) (hu:P.underlying ty=some (.array m e'):=by exact rfl) (b2:qR (some vr) m=some r:=by exact rfl)
 (hc:l≤r∧r≤m∧l<m:=by omega) (hz:zD P e'=some z:=by exact rfl) (hp:qL sz L o.dst (.slice (some ⟨b,0+l*z,none⟩) (r - l) (m - l))=some L':=by exact rfl):KO P X sz ops (o :: os) L h R:=by
 refine zi (v:=.slice (some ⟨b,0+l*z,none⟩) (r - l) (m - l)) (h':=h) hg ?_ hp w;have hne:Nat.beq l m=false:=by rw [Bool.eq_false_iff];intro q;have:=zA6 q;omega
 rw [ho];simp only [zZ,qG hx,zO,qG h1,qG h2,YV,zt,hu,hb,hz,b1,b2,zB3 hc.1,zB3 hc.2.1,zF9,hne,qO]
end
variable [Flag]
theorem qcI {h0:AH} (hf:Flag.b=true) (n:Nat) (hn:1≤n∧n<18446744073709551616):Fn Tryz.prog Xh 203 [.int .u64 n] h0 (fun v h'=>v = .int .i64 (Lib.nDigits n)∧h'=h0):=by
 refine QJ (v:=.int .i64 (Lib.nDigits n)) (h':=h0) ?_ ⟨rfl,rfl⟩;show (if Flag.b=true∧1≤(n:Int)∧(n:Int)<18446744073709551616 then some (Value.int .i64 (Lib.nDigits (n:Int).toNat),h0) else none)=_
 rw [if_pos ⟨hf,by omega,by omega⟩,zA0]
def qf3 (l:List Value):List Value:=l ++ List.replicate (24 - l.length) (.int .u8 0)
theorem P9:∀ k,k<100→d100.getD (k*2) 0=UInt8.ofNat (48+k / 10)∧d100.getD (k*2+1) 0=UInt8.ofNat (48+k % 10):=by decide +kernel
section
variable {P:Program} {X:Extern} {sz:Nat} {L L':Ks} {h:AH} {ops:Array Oper} {os:List Oper} {o:Oper} {R:Ks→AH→Prop}
theorem ti0 {x i:Operand} {ty:TypeId} {ik:IntKind} {a:Int} (k:Nat) (w:KO P X sz ops os L' h R) (ho:o.op = .index ty x i:=by exact rfl) (hg:qC ops L.tree o.guard=some true:=by exact rfl) (hx:kA L x=some (str d100):=by exact rfl) (hi:kA L i=some (.int ik a):=by exact rfl) (hu:P.underlying ty=some .string:=by exact rfl)
 (ha:a=(k:Int)*2∧k<100:=by omega) (hp:qL sz L o.dst (.int .u8 ((48+k / 10:Nat):Int))=some L':=by exact rfl):KO P X sz ops (o :: os) L h R:=by
 have e:(((d100.getD a.toNat 0).toNat:Nat):Int)=((48+k / 10:Nat):Int):=by
  rw [show a.toNat=k*2 by omega,(P9 k ha.2).1,u8t (by omega)]
 rw [← e] at hp;exact ti w ho hg hx hi hu ⟨by omega,by rw [show d100.length=200 by decide +kernel];omega⟩ hp
theorem ti1 {x i:Operand} {ty:TypeId} {ik:IntKind} {a:Int} (k:Nat) (w:KO P X sz ops os L' h R) (ho:o.op = .index ty x i:=by exact rfl) (hg:qC ops L.tree o.guard=some true:=by exact rfl) (hx:kA L x=some (str d100):=by exact rfl) (hi:kA L i=some (.int ik a):=by exact rfl) (hu:P.underlying ty=some .string:=by exact rfl)
 (ha:a=(k:Int)*2+1∧k<100:=by omega) (hp:qL sz L o.dst (.int .u8 ((48+k % 10:Nat):Int))=some L':=by exact rfl):KO P X sz ops (o :: os) L h R:=by
 have e:(((d100.getD a.toNat 0).toNat:Nat):Int)=((48+k % 10:Nat):Int):=by
  rw [show a.toNat=k*2+1 by omega,(P9 k ha.2).2,u8t (by omega)]
 rw [← e] at hp;exact ti w ho hg hx hi hu ⟨by omega,by rw [show d100.length=200 by decide +kernel];omega⟩ hp
end
abbrev z8 (k:Nat):List Value:=List.replicate k (.int .u8 0)
abbrev u8v (k:Nat):Value:=.int .u8 ((k:Nat):Int)
theorem qd7 {h0 h:AH} {rs:List Rs} {b:Nat} (S:Hs h0 h (.blk b (z8 24) 228 :: rs)) (n:Nat) (hn:n<10000):Fn Tryz.prog Xh 204 [.slice (some ⟨b,1,none⟩) 4 23,.int .u64 n] h
 (fun _ h'=>Hs h0 h' (.blk b (.int .u8 0 :: u8v (48+n / 100 / 10) :: u8v (48+n / 100 % 10) :: u8v (48+n % 100 / 10) :: u8v (48+n % 100 % 10) :: z8 19) 228 :: rs)):=by
 refine zF rfl Tryz.func204 rfl rfl ?_;all_goals (repeat' (first|refine qx ?_|refine qi rfl ?_|refine qw ?_|refine qA ?_|refine qh ?_|refine qj ?_|refine qo ?_|(refine qf 0 ?_;refine mv ?_;(first|refine vl ?_|refine Zg S ?_|refine J5 S rfl rfl ?_);refine mv ?_;refine qg ?_)))
 refine zK (σ:=Unit) (fun _ h'=>Hs h0 h' (.blk b (z8 24) 228 :: rs)) (fun _=>0) (fun _=>[(0,.slice (some ⟨b,1,none⟩) 4 23),(1,.int .u64 n),(4,.int .i64 4)]) () zf ?_ ?_
 ·exact S
 clear S;rintro - h S;all_goals (repeat' (first|refine qx ?_|refine qi rfl ?_|refine qw ?_|refine qA ?_|refine qh ?_|refine qj ?_|refine qo ?_|(refine qf 1 ?_;refine mv ?_;(first|refine cT ?_|refine cF ?_|(refine cS ?_ ?_<;>intro hc))<;>(refine qg ?_))|(refine qf 12 ?_;refine mv ?_;refine qe9 ?_;refine mv ?_;refine qg ?_)|(refine qf 13 ?_;refine mv ?_;(first|refine cT ?_|refine cF ?_|(refine cS ?_ ?_<;>intro hc))<;>(refine qg ?_))|(refine qf 14 ?_;refine mv ?_;refine qdO ?_;refine mv ?_;refine qg ?_)|(refine qf 15 ?_;refine mv ?_;refine qdS ?_;refine mv ?_;refine qg ?_)|(refine qf 16 ?_;refine mv ?_;refine qdS ?_;refine qdY ?_;refine mv ?_;refine qdO ?_;refine qdY ?_;refine mv ?_;refine mv ?_;refine qg ?_)))
 refine ji 17 ?_;refine mv ?_;refine mv ?_;refine sb ?_;refine mv ?_;refine mv ?_;refine sb ?_;refine mv ?_;refine qdj ?_;refine ti1 (n % 100) ?_;refine mv ?_;refine ti0 (n % 100) ?_;refine vl ?_;(refine sB S rfl rfl ?_;clear S;intro h S);refine vl ?_;(refine sB S rfl rfl ?_;clear S;intro h S);refine qg ?_;(repeat (refine qx ?_));refine ji 18 ?_;refine mv ?_;refine mv ?_;refine sb ?_;refine mv ?_;refine mv ?_;refine sb ?_;refine mv ?_;refine qdj ?_;refine ti1 (n / 100) ?_;refine mv ?_;refine ti0 (n / 100) ?_;refine vl ?_;(refine sB S rfl rfl ?_;clear S;intro h S);refine vl ?_;(refine sB S rfl rfl ?_;clear S;intro h S);refine qg ?_;all_goals (repeat' (first|refine qx ?_|refine qi rfl ?_|refine qw ?_|refine qA ?_|refine qh ?_|refine qj ?_|refine qo ?_|(refine qf 19 ?_;refine mv ?_;(first|refine sb ?_|refine vl ?_);refine mv ?_;refine qg ?_)|(refine qf 20 ?_;refine mv ?_;(first|refine cT ?_|refine cF ?_|(refine cS ?_ ?_<;>intro hc))<;>(refine qg ?_))|(refine qf 25 ?_;refine mv ?_;(first|refine cT ?_|refine cF ?_|(refine cS ?_ ?_<;>intro hc))<;>(refine qg ?_))))
 refine ⟨_,rfl,?_⟩;exact S
theorem qd8 {h0 h:AH} {rs:List Rs} {b:Nat} (S:Hs h0 h (.blk b (z8 24) 228 :: rs)) (n:Nat) (hn:n<1000):Fn Tryz.prog Xh 204 [.slice (some ⟨b,1,none⟩) 3 23,.int .u64 n] h
 (fun _ h'=>Hs h0 h' (.blk b (.int .u8 0 :: u8v (48+n / 100) :: u8v (48+n % 100 / 10) :: u8v (48+n % 100 % 10) :: z8 20) 228 :: rs)):=by
 refine zF rfl Tryz.func204 rfl rfl ?_;all_goals (repeat' (first|refine qx ?_|refine qi rfl ?_|refine qw ?_|refine qA ?_|refine qh ?_|refine qj ?_|refine qo ?_|(refine qf 0 ?_;refine mv ?_;(first|refine vl ?_|refine Zg S ?_|refine J5 S rfl rfl ?_);refine mv ?_;refine qg ?_)))
 refine zK (σ:=Unit) (fun _ h'=>Hs h0 h' (.blk b (z8 24) 228 :: rs)) (fun _=>0) (fun _=>[(0,.slice (some ⟨b,1,none⟩) 3 23),(1,.int .u64 n),(4,.int .i64 3)]) () zf ?_ ?_
 ·exact S
 clear S;rintro - h S;all_goals (repeat' (first|refine qx ?_|refine qi rfl ?_|refine qw ?_|refine qA ?_|refine qh ?_|refine qj ?_|refine qo ?_|(refine qf 1 ?_;refine mv ?_;(first|refine cT ?_|refine cF ?_|(refine cS ?_ ?_<;>intro hc))<;>(refine qg ?_))|(refine qf 12 ?_;refine mv ?_;refine qe9 ?_;refine mv ?_;refine qg ?_)|(refine qf 13 ?_;refine mv ?_;(first|refine cT ?_|refine cF ?_|(refine cS ?_ ?_<;>intro hc))<;>(refine qg ?_))|(refine qf 20 ?_;refine mv ?_;(first|refine cT ?_|refine cF ?_|(refine cS ?_ ?_<;>intro hc))<;>(refine qg ?_))|(refine qf 21 ?_;refine mv ?_;refine qdO ?_;refine qdY ?_;refine mv ?_;refine qg ?_)|(refine qf 22 ?_;refine mv ?_;refine qdS ?_;refine mv ?_;refine qg ?_)))
 refine ji 23 ?_;refine mv ?_;refine mv ?_;refine sb ?_;refine mv ?_;refine mv ?_;refine sb ?_;refine mv ?_;refine qdj ?_;refine ti1 (n % 100) ?_;refine mv ?_;refine ti0 (n % 100) ?_;refine vl ?_;(refine sB S rfl rfl ?_;clear S;intro h S);refine vl ?_;(refine sB S rfl rfl ?_;clear S;intro h S);refine qg ?_;all_goals (repeat' (first|refine qx ?_|refine qi rfl ?_|refine qw ?_|refine qA ?_|refine qh ?_|refine qj ?_|refine qo ?_|(refine qf 24 ?_;refine mv ?_;(first|refine sb ?_|refine vl ?_);refine mv ?_;refine qg ?_)|(refine qf 25 ?_;refine mv ?_;(first|refine cT ?_|refine cF ?_|(refine cS ?_ ?_<;>intro hc))<;>(refine qg ?_))|(refine qf 26 ?_;refine mv ?_;refine mv ?_;refine qdj ?_;(first|refine cU ?_|refine vl ?_);refine vl ?_;(first|(refine sB S rfl rfl ?_;clear S;intro h S)|(refine J3 S rfl rfl ?_;clear S;intro h S));refine qg ?_)))
 refine ⟨_,rfl,?_⟩;exact S
theorem qe7 {n:Nat} (h:1000≤n∧n<10000):[48+n / 100 / 10,48+n / 100 % 10,48+n % 100 / 10,48+n % 100 % 10].map UInt8.ofNat=XR n:=by
 rw [KW (by omega),KW (show ¬ n / 10<10 by omega),KW (show ¬ n / 10 / 10<10 by omega),KX (show n / 10 / 10 / 10<10 by omega)];have e1:n / 10 / 10 / 10=n / 100 / 10:=by omega
 have e2:n / 10 / 10 % 10=n / 100 % 10:=by omega
 have e3:n / 10 % 10=n % 100 / 10:=by omega
 have e4:n % 10=n % 100 % 10:=by omega
 rw [e1,e2,e3,e4];rfl
theorem qe8 {n:Nat} (h:100≤n∧n<1000):[48+n / 100,48+n % 100 / 10,48+n % 100 % 10].map UInt8.ofNat=XR n:=by
 rw [KW (by omega),KW (show ¬ n / 10<10 by omega),KX (show n / 10 / 10<10 by omega)];have e2:n / 10 / 10=n / 100:=by omega
 have e3:n / 10 % 10=n % 100 / 10:=by omega
 have e4:n % 10=n % 100 % 10:=by omega
 rw [e2,e3,e4];rfl
theorem qfL {n:Nat} (h:1000≤n∧n<10000):Lib.nDigits n=4:=by
 rw [Lib.nDigits,dif_neg (by omega),Lib.nDigits,dif_neg (by omega),Lib.nDigits,dif_neg (by omega),Lib.nDigits,dif_pos (by omega)]
theorem qfM {n:Nat} (h:100≤n∧n<1000):Lib.nDigits n=3:=by
 rw [Lib.nDigits,dif_neg (by omega),Lib.nDigits,dif_neg (by omega),Lib.nDigits,dif_pos (by omega)]
theorem qcW {h0:AH} (w:WfH h0) (hf:Flag.b=true) (n:Nat) (hn:n<10000):Fn Tryz.prog Xh 181 [.int .i64 n,.int .i64 10] h0 (fun v h'=>v=str (XR n)∧Hs h0 h' []):=by
 have S:=Hs.start w;refine zF rfl Tryz.func181 rfl rfl ?_;all_goals (repeat' (first|refine qx ?_|refine qi rfl ?_|refine qw ?_|refine qA ?_|refine qh ?_|refine qj ?_|refine qo ?_|(refine qf 0 ?_;refine mv ?_;refine qg ?_)|(refine qf 1 ?_;refine mv ?_;(first|refine cT ?_|refine cF ?_|(refine cS ?_ ?_<;>intro hc))<;>(refine qg ?_))|(refine qf 2 ?_;refine mv ?_;(first|refine cT ?_|refine cF ?_|(refine cS ?_ ?_<;>intro hc))<;>(refine mv ?_;(first|refine off ?_|refine mv ?_);(first|refine off ?_|(first|refine cT ?_|refine cF ?_|(refine cS ?_ ?_<;>intro hc)))<;>(refine vl ?_;refine qg ?_)))|(refine qf 4 ?_;(refine al S ?_;clear S;intro b h S);refine qg ?_)|(refine qf 5 ?_;refine mv ?_;(first|refine cW ?_|refine vl ?_);refine mv ?_;refine qg ?_)|(refine qf 6 ?_;refine mv ?_;(first|refine cT ?_|refine cF ?_|(refine cS ?_ ?_<;>intro hc))<;>(refine qg ?_))))
 ·all_goals (repeat' (first|refine qx ?_|refine qi rfl ?_|refine qw ?_|refine qA ?_|refine qh ?_|refine qj ?_|refine qo ?_|(refine qf 3 ?_;refine mv ?_)))
  (refine qH rfl rfl rfl rfl rfl ((qbe S.wf n (by omega)).mono ?_);rintro _ h ⟨rfl,x⟩)<;>(replace S:=S.zn x;clear x;refine mv ?_;refine qg ?_)
  all_goals (repeat' (first|refine qx ?_|refine qi rfl ?_|refine qw ?_|refine qA ?_|refine qh ?_|refine qj ?_|refine qo ?_|(refine qf 0 ?_;refine mv ?_;refine qg ?_)|(refine qf 1 ?_;refine mv ?_;(first|refine cT ?_|refine cF ?_|(refine cS ?_ ?_<;>intro hc))<;>(refine qg ?_))|(refine qf 2 ?_;refine mv ?_;(first|refine cT ?_|refine cF ?_|(refine cS ?_ ?_<;>intro hc))<;>(refine mv ?_;(first|refine off ?_|refine mv ?_);(first|refine off ?_|(first|refine cT ?_|refine cF ?_|(refine cS ?_ ?_<;>intro hc)))<;>(refine vl ?_;refine qg ?_)))|(refine qf 3 ?_;refine mv ?_)|(refine qf 4 ?_;(refine al S ?_;clear S;intro b h S);refine qg ?_)|(refine qf 5 ?_;refine mv ?_;(first|refine cW ?_|refine vl ?_);refine mv ?_;refine qg ?_)|(refine qf 6 ?_;refine mv ?_;(first|refine cT ?_|refine cF ?_|(refine cS ?_ ?_<;>intro hc))<;>(refine qg ?_))|(refine qf 7 ?_;refine mv ?_;refine ng ?_;refine mv ?_;refine qg ?_)|(refine qf 8 ?_;refine mv ?_)|(refine qf 14 ?_;refine mv ?_;(first|refine cW ?_|refine vl ?_);refine mv ?_;refine mv ?_;(first|refine cT ?_|refine cF ?_|(refine cS ?_ ?_<;>intro hc)))))
  refine qF ⟨_,rfl,?_⟩;exact ⟨rfl,S⟩
 ·skip
  all_goals (repeat' (first|refine qx ?_|refine qi rfl ?_|refine qw ?_|refine qA ?_|refine qh ?_|refine qj ?_|refine qo ?_|(refine qf 4 ?_;(refine al S ?_;clear S;intro b h S);refine qg ?_)|(refine qf 5 ?_;refine mv ?_;(first|refine cW ?_|refine vl ?_);refine mv ?_;refine qg ?_)|(refine qf 6 ?_;refine mv ?_;(first|refine cT ?_|refine cF ?_|(refine cS ?_ ?_<;>intro hc))<;>(refine qg ?_))))
  obtain ⟨bb,hnm⟩:∃ x,x=b:=⟨_,rfl⟩;subst hnm;all_goals (repeat' (first|refine qx ?_|refine qi rfl ?_|refine qw ?_|refine qA ?_|refine qh ?_|refine qj ?_|refine qo ?_|(refine qf 8 ?_;refine mv ?_)))
  (refine qH rfl rfl rfl rfl rfl ((qcI hf n (by omega)).mono ?_);rintro _ h2 ⟨rfl,rfl⟩)<;>(refine mv ?_;refine qg ?_)
  rcases zA7 n 1000 with q|q
  ·rw [qfM (by omega)];(repeat (refine qx ?_));refine qf 9 ?_;refine mv ?_;refine ad ?_;refine slA (l:=1) (r:=4) (m:=24) S.gB ?_;refine mv ?_;(refine qH rfl rfl rfl rfl rfl ((qd8 S n (by omega)).mono ?_);rintro _ h S2)<;>(replace S:=S2;clear S2;refine qg ?_)
   all_goals (repeat' (first|refine qx ?_|refine qi rfl ?_|refine qw ?_|refine qA ?_|refine qh ?_|refine qj ?_|refine qo ?_|(refine qf 10 ?_;refine mv ?_;(first|refine cT ?_|refine cF ?_|(refine cS ?_ ?_<;>intro hc))<;>(refine qg ?_))))
   (repeat (refine qx ?_));refine qf 13 ?_;refine mv ?_;refine ad ?_;refine slA (l:=1) (r:=4) (m:=24) S.gB ?_;have r:Qk h (.slice (some ⟨bb,1,none⟩) 3 23) 1 eU [48+n / 100,48+n % 100 / 10,48+n % 100 % 10]:=.inr ⟨bb,1,23,_,_,none,false,rfl,S.gB,rfl⟩;refine bS r ?_;rw [qe8 (by omega)];refine mv ?_;refine qg ?_;all_goals (repeat' (first|refine qx ?_|refine qi rfl ?_|refine qw ?_|refine qA ?_|refine qh ?_|refine qj ?_|refine qo ?_|(refine qf 13 ?_;refine mv ?_;(first|refine ad ?_|refine vl ?_))))
   refine qF ⟨_,rfl,?_⟩;exact ⟨rfl,S.drop⟩
  ·rw [qfL (by omega)];(repeat (refine qx ?_));refine qf 9 ?_;refine mv ?_;refine ad ?_;refine slA (l:=1) (r:=5) (m:=24) S.gB ?_;refine mv ?_;(refine qH rfl rfl rfl rfl rfl ((qd7 S n (by omega)).mono ?_);rintro _ h S2)<;>(replace S:=S2;clear S2;refine qg ?_)
   all_goals (repeat' (first|refine qx ?_|refine qi rfl ?_|refine qw ?_|refine qA ?_|refine qh ?_|refine qj ?_|refine qo ?_|(refine qf 10 ?_;refine mv ?_;(first|refine cT ?_|refine cF ?_|(refine cS ?_ ?_<;>intro hc))<;>(refine qg ?_))))
   (repeat (refine qx ?_));refine qf 13 ?_;refine mv ?_;refine ad ?_;refine slA (l:=1) (r:=5) (m:=24) S.gB ?_;have r:Qk h (.slice (some ⟨bb,1,none⟩) 4 23) 1 eU [48+n / 100 / 10,48+n / 100 % 10,48+n % 100 / 10,48+n % 100 % 10]:=.inr ⟨bb,1,23,_,_,none,false,rfl,S.gB,rfl⟩;refine bS r ?_;rw [qe7 (by omega)];refine mv ?_;refine qg ?_;all_goals (repeat' (first|refine qx ?_|refine qi rfl ?_|refine qw ?_|refine qA ?_|refine qh ?_|refine qj ?_|refine qo ?_|(refine qf 13 ?_;refine mv ?_;(first|refine ad ?_|refine vl ?_))))
   refine qF ⟨_,rfl,?_⟩;exact ⟨rfl,S.drop⟩
theorem qcP {h0:AH} (w:WfH h0) (hf:Flag.b=true) (n:Nat) (hn:n<10000):Fn Tryz.prog Xh 112 [.int .i64 n] h0 (fun v h'=>v=str (XR n)∧Hs h0 h' []):=by
 have S:=Hs.start w;have two:∀ {h1:AH} (w:WfH h1),Fn Tryz.prog Xh 143 [.int .i64 n] h1 (fun v h'=>v=str (XR n)∧Hs h1 h' []):=fun {h1} w=>by
  have S:=Hs.start w;refine zF rfl Tryz.func143 rfl rfl ?_;all_goals (repeat' (first|refine qx ?_|refine qi rfl ?_|refine qw ?_|refine qA ?_|refine qh ?_|refine qj ?_|refine qo ?_|(refine qf 0 ?_;refine mv ?_;refine qg ?_)|(refine qf 1 ?_;refine mv ?_)))
  (refine qH rfl rfl rfl rfl rfl ((qcW S.wf hf n hn).mono ?_);rintro _ h ⟨rfl,x⟩)<;>(replace S:=S.zn x;clear x;refine mv ?_;refine qg ?_)
  all_goals (repeat' (first|refine qx ?_|refine qi rfl ?_|refine qw ?_|refine qA ?_|refine qh ?_|refine qj ?_|refine qo ?_))
  refine qF ⟨_,rfl,?_⟩;exact ⟨rfl,S⟩
 refine zF rfl Tryz.func112 rfl rfl ?_;all_goals (repeat' (first|refine qx ?_|refine qi rfl ?_|refine qw ?_|refine qA ?_|refine qh ?_|refine qj ?_|refine qo ?_|(refine qf 0 ?_;refine mv ?_;refine qg ?_)|(refine qf 1 ?_;refine mv ?_)))
 (refine qH rfl rfl rfl rfl rfl ((two S.wf).mono ?_);rintro _ h ⟨rfl,x⟩)<;>(replace S:=S.zn x;clear x;refine mv ?_;refine qg ?_)
 all_goals (repeat' (first|refine qx ?_|refine qi rfl ?_|refine qw ?_|refine qA ?_|refine qh ?_|refine qj ?_|refine qo ?_))
 refine qF ⟨_,rfl,?_⟩;exact ⟨rfl,S⟩
theorem KI {h0:AH} (w:WfH h0) (hf:Flag.b=true) {z:Int} (n:Nat) (hz:z=n) (hn:n<10000):Fn Tryz.prog Xh 112 [.int .i64 z] h0 (fun v h'=>v=str (XR n)∧Hs h0 h' []):=by
 subst hz;exact qcP w hf n hn
end Go.Proofs.Xx
namespace Go.Proofs.Xx
open Go Go.Proofs
structure Ct where
 d:List UInt8
 n:Int
instance instInhCt:Inhabited Ct:=⟨⟨[],0⟩⟩
def eCt (c:Ct):List Value:=[str c.d,.int .i64 c.n]
def ctV (c:Ct):Value:=.agg #[str c.d,.int .i64 c.n]
def ctb (x y:Ct):Prop:=jk x.d y.d
abbrev cvU:Value:=.func (.func 110) #[] #[]
variable [Flag]
end Go.Proofs.Xx
namespace Go.Proofs.Xx
open Go Go.Proofs
variable [Flag]
end Go.Proofs.Xx
namespace Go.Proofs.Xx
open Go Go.Proofs
variable [Flag]
end Go.Proofs.Xx
namespace Go.Proofs.Xx
open Go Go.Proofs
theorem SS.filter {l:List (List UInt8)} (h:SS l) (p:List UInt8→Bool):SS (l.filter p):=by
 have hp:l.Pairwise jk:=by
  rw [zD2];intro i j hi hj hij;have:=h i j hij hj;rwa [zA2,zA2,zA4 hj,zA4 hi] at this
 have hq:=hp.filter p;intro i j hij hj;have:=zD2.1 hq i j (by omega) hj hij;rw [zA2,zA2,zA4 hj,zA4 (show i<(l.filter p).length by omega)];exact this
variable [Flag]
end Go.Proofs.Xx
namespace Go.Proofs.Xx
open Go Go.Proofs
def adB (r:Rl) (k:Int) (n x:List UInt8):Bool:=match qeG r.ts n x with|some t=>decide (t.k=k)|none=>false
theorem TgOk.ss {l:List (List UInt8)} (h:TgOk l):SS l:=fun i j hij=>by
 induction j with
 | zero=>omega
 | succ j ih =>
  intro hj;have h1:=(h (j+1) hj).2 (by omega);rw [Nat.add_sub_cancel] at h1;rcases zA7 i j with q|q
  ·exact jY (ih q (by omega)) h1
  ·obtain rfl:i=j:=by omega
   exact h1
variable [Flag]
end Go.Proofs.Xx
namespace Go.Proofs.Xx
open Go Go.Proofs
def lst (ns:List (List UInt8)) (P:List Nat):List (List UInt8):=P.map fun p=>ns.getD p default
theorem SS.lt_iff {l:List (List UInt8)} (h:SS l) {i j:Nat} (hi:i<l.length) (hj:j<l.length):jk (l.getD i default) (l.getD j default)↔i<j:=by
 constructor
 ·intro q;rcases zA7 i j with z|z
  ·exact z
  ·exact absurd q (h.le z hi)
 ·exact fun q=>h i j q hj
theorem SS.inj {l:List (List UInt8)} (h:SS l) {i j:Nat} (hi:i<l.length) (hj:j<l.length) (e:l.getD i default=l.getD j default):i=j:=by
 rcases zE7 i j with q|q|q
 ·exact absurd e (ZE h.nodup q hj)
 ·exact q
 ·exact absurd e.symm (ZE h.nodup q hi)
structure LI (r:Rl) (ns:List (List UInt8)) (P:List Nat):Prop where
 len:P.length=ns.length
 le:∀ i,i<P.length→P.getD i default≤i
 rc:∀ i,i<P.length→Rch r 1 (ns.getD i default) (ns.getD (P.getD i default) default)
def LC (r:Rl) (ns:List (List UInt8)) (P:List Nat):Prop:=∀ i k,i<ns.length→k<ns.length→adj r 1 (ns.getD i default) (ns.getD k default)→P.getD i default≤P.getD k default
theorem LI.set {r:Rl} {ns:List (List UInt8)} {P:List Nat} (I:LI r ns P) {i k:Nat} (hi:i<P.length) (hk:k<P.length) (h:P.getD k default<P.getD i default) (a:adj r 1 (ns.getD i default) (ns.getD k default)):LI r ns (P.set i (P.getD k default)):=by
 have hg:∀ j,(P.set i (P.getD k default)).getD j default=if j=i then P.getD k default else P.getD j default:=fun j=>QG _ _ hi j
 refine ⟨by simp;exact I.len,fun j hj=>?_,fun j hj=>?_⟩
 ·simp at hj;rw [hg];split
  ·rename_i e
   have:=I.le i hi;omega
  ·exact I.le j hj
 ·simp at hj;rw [hg];split
  ·rename_i e
   rw [e];exact (Rch.step .refl a).trans (I.rc k hk)
  ·exact I.rc j hj
def pX (ns:List (List UInt8)) (P:List Nat) (i n:Nat):List (List UInt8):=((List.range n).filter fun k=>decide (P.getD k default=i)).map fun k=>ns.getD k default
theorem Gf {ns:List (List UInt8)} {P:List Nat} {i n:Nat} {x:List UInt8}:x∈pX ns P i n↔∃ k,k<n∧P.getD k default=i∧ns.getD k default=x:=by
 unfold pX;simp only [zF1,zE0,zE3,decide_eq_true_eq];constructor
 ·rintro ⟨k,⟨h1,h2⟩,h3⟩;exact ⟨k,h1,h2,h3⟩
 ·rintro ⟨k,h1,h2,h3⟩;exact ⟨k,⟨h1,h2⟩,h3⟩
theorem SS.qeS {l:List (List UInt8)} (h:l.Pairwise jk):SS l:=by
 intro i j hij hj;have:=zD2.1 h i j (by omega) hj hij;rw [zA2,zA2,zA4 hj,zA4 (show i<l.length by omega)];exact this
theorem qc9 {ns:List (List UInt8)} (hs:SS ns) {P:List Nat} {i n:Nat} (hn:n≤ns.length):SS (pX ns P i n):=by
 apply SS.qeS
 unfold pX;rw [List.pairwise_map];have h1:(List.range n).Pairwise fun a b=>a<b:=List.pairwise_lt_range;have h2:=h1.filter fun k=>decide (P.getD k default=i);refine List.Pairwise.imp_of_mem ?_ h2;intro a b ha hb hab;have hb':=zE3.1 (zE0.1 hb).1;exact hs a b hab (by omega)
def qf0 (ns:List (List UInt8)) (P:List Nat) (n:Nat):List (List (List UInt8)):=((List.range n).filter fun i=>decide (P.getD i default=i)).map fun i=>pX ns P i ns.length
theorem LI.head {r:Rl} {ns:List (List UInt8)} {P:List Nat} (I:LI r ns P) (hs:SS ns) {i:Nat} (hi:i<ns.length) (e:P.getD i default=i):(pX ns P i ns.length).getD 0 default=ns.getD i default:=by
 have hm:ns.getD i default∈pX ns P i ns.length:=Gf.2 ⟨i,hi,e,rfl⟩;have hss:=qc9 hs (P:=P) (i:=i) (zA3 ns.length);have hpos:=List.length_pos_of_mem hm;obtain ⟨k,k1,k2,k3⟩:=Gf.1 (qJ hpos);obtain ⟨j,j1,j2⟩:=qM.1 hm;have h1:=hss.le (zB0 j) j1;rw [j2,← k3,hs.lt_iff hi k1] at h1;have h2:=I.le k (by rw [I.len];exact k1);have:k=i:=by omega
 rw [← k3,this]
def Y2 (r:Rl):List (List UInt8):=r.us.map (·.diet)
structure qcr (r:Rl) (ds:List Ct):Prop where
 ss:SS (ds.map (·.d))
 n:∀ c∈ds,c.n=((Y2 r).count c.d:Int)
 all:∀ x,x∈ds.map (·.d)↔x∈Y2 r
def pG (mp:List (List UInt8×Int)) (d:List UInt8):Int:=match zW mp d with|some x=>x|none=>0
theorem qbz {mp:List (List UInt8×Int)} {k:List UInt8} {x:Int} (d:List UInt8):pG (Jd mp k x) d=if d=k then x else pG mp d:=by
 unfold pG;rw [Jt];by_cases e:d=k
 ·rw [if_pos e,if_pos e]
 ·rw [if_neg e,if_neg e]
structure DP (r:Rl) (i:Nat) (mp:List (List UInt8×Int)) (out:List Ct):Prop where
 m:∀ d,pG mp d=if d∈(Y2 r).take i then 0 else ((Y2 r).count d:Int)
 nd:(out.map (·.d)).Nodup
 mem:∀ d,d∈out.map (·.d)↔d∈(Y2 r).take i
 n:∀ c∈out,c.n=((Y2 r).count c.d:Int)
 ln:out.length≤i
theorem jg {l:List (List UInt8)} {i:Nat} (hi:i<l.length) (d:List UInt8):d∈l.take (i+1)↔d∈l.take i∨d=l.getD i default:=by
 rw [zq hi,zB8,zB5]
theorem DP.yes {r:Rl} {i:Nat} {mp:List (List UInt8×Int)} {out:List Ct} (D:DP r i mp out) (hi:i<(Y2 r).length) (h:0<pG mp ((Y2 r).getD i default)):DP r (i+1) (Jd mp ((Y2 r).getD i default) 0) (out ++ [⟨(Y2 r).getD i default,pG mp ((Y2 r).getD i default)⟩]):=by
 have hn:(Y2 r).getD i default ∉ (Y2 r).take i:=fun q=>by
  have:=D.m ((Y2 r).getD i default);rw [if_pos q] at this;omega
 have hv:=D.m ((Y2 r).getD i default);rw [if_neg hn] at hv;refine ⟨fun d=>?_,?_,fun d=>?_,fun c hc=>?_,by have:=D.ln;simp;omega⟩
 ·rw [qbz];by_cases e:d=(Y2 r).getD i default
  ·rw [if_pos e,if_pos ((jg hi d).2 (.inr e))]
  ·rw [if_neg e,D.m d];by_cases q:d∈(Y2 r).take i
   ·rw [if_pos q,if_pos ((jg hi d).2 (.inl q))]
   ·rw [if_neg q,if_neg (fun z=>((jg hi d).1 z).elim q e)]
 ·rw [zC9,zG4];refine ⟨D.nd,by simp,fun a ha b hb e=>?_⟩;simp only [List.map_cons,List.map_nil,zB5] at hb;subst e;subst hb;exact hn ((D.mem _).1 ha)
 ·rw [zC9,zB8,D.mem,jg hi];simp
 ·rcases zB8.1 hc with q|q
  ·exact D.n c q
  ·rw [zB5.1 q];exact hv
theorem DP.no {r:Rl} {i:Nat} {mp:List (List UInt8×Int)} {out:List Ct} (D:DP r i mp out) (hi:i<(Y2 r).length) (h:¬ 0<pG mp ((Y2 r).getD i default)):DP r (i+1) mp out:=by
 have hn:(Y2 r).getD i default∈(Y2 r).take i:=by
  apply zG8
  intro q;have hv:=D.m ((Y2 r).getD i default);rw [if_neg q] at hv;have:0<(Y2 r).count ((Y2 r).getD i default):=List.count_pos_iff.2 (qJ hi);omega
 have key:∀ d,d∈(Y2 r).take (i+1)↔d∈(Y2 r).take i:=fun d=>by
  rw [jg hi];exact ⟨fun q=>q.elim id (fun e=>e ▸ hn),.inl⟩
 refine ⟨fun d=>?_,D.nd,fun d=>by rw [D.mem,key],D.n,by have:=D.ln;omega⟩;rw [D.m d];simp only [key]
theorem DP.fin {r:Rl} {mp:List (List UInt8×Int)} {out ds:List Ct} (D:DP r (Y2 r).length mp out) (s:Sw 0 out.length out ds) (h:Srt ctb 0 out.length ds):qcr r ds:=by
 have hl:=s.len;have hp:=s.perm;have hnd:(ds.map (·.d)).Nodup:=(hp.map _).nodup_iff.2 D.nd;refine ⟨fun i j hij hj=>?_,fun c hc=>D.n c (hp.mem_iff.1 hc),fun x=>?_⟩
 ·have hj':j<ds.length:=by simpa using hj
  have h1:=h i j (zB0 _) hij (by omega);have h2:=ZE hnd hij hj;rw [zB (f:=fun c:Ct=>c.d) hj',zB (f:=fun c:Ct=>c.d) (show i<ds.length by omega)] at *;rcases Xg h1 with q|q
  ·exact absurd q h2
  ·exact q
 ·have:=D.mem x;rw [zD4] at this;rw [← this];exact (hp.map _).mem_iff
variable [Flag]
end Go.Proofs.Xx
