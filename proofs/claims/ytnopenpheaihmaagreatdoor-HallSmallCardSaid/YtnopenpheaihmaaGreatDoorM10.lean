/-
  Words: the length of a number,random words.
-/
import Derived.Test.YtnopenpheaihmaaGreatDoorM9
import Derived.Below
import Derived.ChangeSame
import Derived.ChangeArms
import Derived.OpenShut
import Derived.Test.YtnopenpheaihmaaGreatDoorM4
import Derived.Test.YtnopenpheaihmaaGreatDoorM3
import Derived.WideShapes
import Derived.ChangeShapes
import Derived.Test.YtnopenpheaihmaaGreatDoorM5
import Derived.Test.YtnopenpheaihmaaGreatDoorM6
import Derived.Test.YtnopenpheaihmaaGreatDoorM8
namespace Go.Proofs.Xx
open Go Go.Proofs
set_option linter.unusedSimpArgs false
set_option linter.unusedVariables false
set_option maxRecDepth 100000
def lenTab:List UInt8:=[0,1] ++ List.replicate 2 2 ++ List.replicate 4 3 ++ List.replicate 8 4 ++ List.replicate 16 5 ++ List.replicate 32 6 ++ List.replicate 64 7 ++ List.replicate 128 8
theorem qcC:∀ n,n<64→0<n→(lenTab.getD n 0).toNat≤6∧n<2 ^ (lenTab.getD n 0).toNat∧2 ^ (lenTab.getD n 0).toNat≤2*n:=by decide +kernel
theorem qa7:lenTab.length=256:=by decide +kernel
theorem qd4 {h0:AH} (w:WfH h0) (n:Nat) (hn:n<64):Fn Tryz.prog Xh 189 [.int .u64 n] h0 (fun v h'=>v = .int .i64 ((lenTab.getD n 0).toNat:Int)∧Hs h0 h' []):=by
 have S:=Hs.start w
 have hl:=qa7
 have hb:(lenTab.getD n 0).toNat<256:=UInt8.toNat_lt _
 refine qF rfl Tryz.func189 rfl rfl ?_
 all_goals (repeat' (first|refine qi ?_|refine ql rfl ?_|refine qo ?_|(refine qf 0 ?_;refine mv ?_;refine qg ?_)|(refine qf 1 ?_;refine mv ?_;(refine cF ?_)<;>(refine qg ?_))|(refine qf 4 ?_;refine mv ?_;(refine cF ?_)<;>(refine qg ?_))|(refine qf 7 ?_;refine mv ?_;(refine cF ?_)<;>(refine qg ?_))))
 refine qf 10 ?_
 refine mv ?_;refine mv ?_;refine cU ?_
 refine ti (l:=lenTab) ?_
 rw [Int.toNat_natCast]
 (refine cI ?_);refine ad ?_;refine mv ?_;refine qg ?_
 all_goals (repeat' (fail))
 refine qx ⟨_,rfl,?_⟩
 exact ⟨by show Value.int .i64 (0+_)=_;rw [Int.zero_add],S⟩
theorem qd3 {h0:AH} (w:WfH h0) (n:Nat) (hn:n<64):Fn Tryz.prog Xh 141 [.int .u64 n] h0 (fun v h'=>v = .int .i64 ((lenTab.getD n 0).toNat:Int)∧Hs h0 h' []):=by
 have S:=Hs.start w
 refine qF rfl Tryz.func141 rfl rfl ?_
 all_goals (repeat' (first|refine qi ?_|refine ql rfl ?_|refine qo ?_|(refine qf 0 ?_;refine mv ?_;refine qg ?_)|(refine qf 2 ?_;refine mv ?_)))
 (refine qw rfl rfl rfl rfl rfl ((qd4 S.wf n hn).mono ?_);rintro _ h ⟨rfl,x⟩)<;>(replace S:=S.qy x;clear x;refine mv ?_;refine qg ?_)
 all_goals (repeat' (fail))
 refine qx ⟨_,rfl,?_⟩
 exact ⟨rfl,S⟩
theorem qeY {h0:AH} (w:WfH h0) (n:Nat) (hn:0<n∧n<64):Fn Tryz.prog Xh 219 [.int .i64 n] h0 (fun v h'=>∃ P:Int,v = .int .u64 P∧(n:Int)<P∧P≤2*n∧Hs h0 h' []):=by
 have S:=Hs.start w
 have hk:=qcC n hn.2 hn.1
 refine qF rfl Tryz.func219 rfl rfl ?_
 all_goals (repeat' (first|refine qi ?_|(refine qf 0 ?_;refine mv ?_;refine qg ?_)|(refine qf 1 ?_;refine mv ?_;refine cW ?_)))
 (refine qw rfl rfl rfl rfl rfl ((qd3 S.wf n hn.2).mono ?_);rintro _ h ⟨rfl,x⟩)<;>(replace S:=S.qy x;clear x;refine sL ?_;refine mv ?_;refine qg ?_)
 all_goals (repeat' (fail))
 refine qx ⟨_,rfl,?_⟩
 refine ⟨_,rfl,?_,?_,S⟩
 ·have:(n:Int)<((2 ^ (lenTab.getD n 0).toNat:Nat):Int):=by exact_mod_cast hk.2.1
  simpa using this
 ·have:((2 ^ (lenTab.getD n 0).toNat:Nat):Int)≤((2*n:Nat):Int):=by exact_mod_cast hk.2.2
  simpa using this
theorem qdj {h0 h:AH} {rs:List Rs} {bs:Nat} {z:Int} (S:Hs h0 h (.blk bs [.int .u64 z] 188 :: rs)) (hz:0≤z∧z≤18446744073709551615):Fn Tryz.prog Xh 220 [.pointer (some ⟨bs,0,none⟩)] h (fun r h'=>∃ y,r = .int .u64 y∧(0≤y∧y≤18446744073709551615)∧Hs h0 h' (.blk bs [.int .u64 y] 188 :: rs)):=by
 refine qF rfl Tryz.func220 rfl rfl ?_
 all_goals (repeat' (first|refine qi ?_|(refine qf 0 ?_;refine mv ?_;refine qg ?_)|(refine qO 1 ?_;refine mv ?_;refine vl ?_;refine lB S rfl rfl ?_;refine mv ?_;refine vl ?_;refine lB S rfl rfl ?_;(first|(refine aW ?_;intro r1 hr1 hr2));(first|(refine aW ?_;intro r1 hr1 hr2));refine vl ?_;(first|(refine sB S rfl rfl ?_;clear S;intro h S));refine qg ?_)|(refine qO 2 ?_;refine mv ?_;refine vl ?_;refine lB S rfl rfl ?_;refine mv ?_;refine vl ?_;refine lB S rfl rfl ?_;refine sR ?_;(first|(refine aW ?_;intro r1 hr1 hr2));refine vl ?_;(first|(refine sB S rfl rfl ?_;clear S;intro h S));refine qg ?_)|(refine qO 3 ?_;refine mv ?_;refine vl ?_;refine lB S rfl rfl ?_;refine mv ?_;refine vl ?_;refine lB S rfl rfl ?_;(first|(refine aW ?_;intro r1 hr1 hr2));(first|(refine aW ?_;intro r1 hr1 hr2));refine vl ?_;(first|(refine sB S rfl rfl ?_;clear S;intro h S));refine qg ?_)|(refine qf 4 ?_;refine mv ?_;refine vl ?_;refine lB S rfl rfl ?_;refine mv ?_;refine qg ?_)))
 refine qx ⟨_,rfl,?_⟩
 exact ⟨_,rfl,by omega,S⟩
end Go.Proofs.Xx
namespace Go.Proofs.Xx
set_option linter.unusedVariables false
section
variable {α:Type} [Inhabited α] {lt:α→α→Prop}
theorem Sw.lift {a b:Nat} {l l':List α} (s:Sw a b l l') {p:α→Prop} (h:∀ k,k<l.length→p (l.getD k default)) (hb:b≤l.length):∀ k,k<l'.length→p (l'.getD k default):=fun k hk=>by
 rw [s.len] at hk
 by_cases q:a≤k∧k<b
 ·obtain ⟨m,m1,m2,m3⟩:=s.in_ q.1 q.2
  rw [m3];exact h m (by omega)
 ·rw [s.out (by omega)];exact h k hk
theorem Heap.pop {f i:Nat} {l:List α} (h:Heap lt f 0 (i+1) l) (hl:f+i<l.length):Heap lt f 1 i (swp l f (f+i)):=by
 intro k hk
 have g:=swp_get (l:=l) (i:=f) (j:=f+i) (by omega) (by omega)
 have hh:=h k (Nat.zero_le _)
 refine ⟨fun q=>?_,fun q=>?_⟩
 ·rw [g,g,if_neg (by omega),if_neg (by omega),if_neg (by omega),if_neg (by omega)];exact hh.1 (by omega)
 ·rw [g,g,if_neg (by omega),if_neg (by omega),if_neg (by omega),if_neg (by omega)];exact hh.2 (by omega)
theorem HeapI.done {f n b:Nat} {l:List α} (h:HeapI lt f 0 n l) (hb:b=f+n):Srt lt f b l:=fun i j h1 h2 h3=>by
 have:=h.2 (i - f) (j - f) (by omega) (Nat.zero_le _) (by omega)
 rwa [show f+(j - f)=j by omega,show f+(i - f)=i by omega] at this
structure PartI (lt:α→α→Prop) (a b:Nat) (x:α) (i j:Nat) (m:List α):Prop where
 bi:a<i∧i≤j+1∧j<b
 lo:∀ k,a<k→k<i→lt (m.getD k default) x
 hi:∀ k,j<k→k<b→¬ lt (m.getD k default) x
 x:m.getD a default=x
theorem PartI.swap {a b:Nat} {x:α} {i j:Nat} {m:List α} (h:PartI lt a b x i j m) (hb:b≤m.length) (hij:i≤j) (h1:¬ lt (m.getD i default) x) (h2:lt (m.getD j default) x):i<j∧PartI lt a b x (i+1) (j - 1) (swp m i j):=by
 have hbi:=h.bi
 have hne:i≠j:=fun q=>by subst q;exact h1 h2
 have g:=swp_get (l:=m) (i:=i) (j:=j) (by omega) (by omega)
 refine ⟨by omega,⟨by omega,fun k q1 q2=>?_,fun k q1 q2=>?_,?_⟩⟩
 ·rw [g,if_neg (by omega)]
  split
  ·exact h2
  ·exact h.lo k q1 (by omega)
 ·rw [g]
  split
  ·exact h1
  ·rw [if_neg (by omega)];exact h.hi k (by omega) q2
 ·rw [g,if_neg (by omega),if_neg (by omega)];exact h.x
theorem PartI.done (W:WOrd lt) {a b:Nat} {x:α} {i j:Nat} {m:List α} (h:PartI lt a b x i j m) (hb:b≤m.length) (hij:j<i):Parted lt a b j (swp m j a):=by
 have hbi:=h.bi
 have g:=swp_get (l:=m) (i:=j) (j:=a) (by omega) (by omega)
 have gj:(swp m j a).getD j default=x:=by
  rw [g]
  split
  ·rename_i e;rw [e];exact h.x
  ·rw [if_pos rfl];exact h.x
 refine ⟨fun k q1 q2=>?_,fun k q1 q2=>?_⟩
 ·rw [gj,g]
  split
  ·exact h.lo j (by omega) (by omega)
  ·rw [if_neg (by omega)];exact h.lo k (by omega) (by omega)
 ·rw [gj,g,if_neg (by omega),if_neg (by omega)];exact h.hi k q1 q2
structure EqI (lt:α→α→Prop) (a b:Nat) (x:α) (i j:Nat) (m:List α):Prop where
 bi:a<i∧i≤j+1∧j<b
 lo:∀ k,a<k→k<i→¬ lt x (m.getD k default)
 hi:∀ k,j<k→k<b→lt x (m.getD k default)
 x:m.getD a default=x
theorem EqI.swap {a b:Nat} {x:α} {i j:Nat} {m:List α} (h:EqI lt a b x i j m) (hb:b≤m.length) (hij:i≤j) (h1:lt x (m.getD i default)) (h2:¬ lt x (m.getD j default)):i<j∧EqI lt a b x (i+1) (j - 1) (swp m i j):=by
 have hbi:=h.bi
 have hne:i≠j:=fun q=>by subst q;exact h2 h1
 have g:=swp_get (l:=m) (i:=i) (j:=j) (by omega) (by omega)
 refine ⟨by omega,⟨by omega,fun k q1 q2=>?_,fun k q1 q2=>?_,?_⟩⟩
 ·rw [g,if_neg (by omega)]
  split
  ·exact h2
  ·exact h.lo k q1 (by omega)
 ·rw [g]
  split
  ·exact h1
  ·rw [if_neg (by omega)];exact h.hi k (by omega) q2
 ·rw [g,if_neg (by omega),if_neg (by omega)];exact h.x
theorem DoneI.low {a b a' b':Nat} {l:List α} (h:DoneI lt a b a' b' l) (h1:a<a') (h2:b'≤b):∀ k,a'≤k→k<b'→¬ lt (l.getD k default) (l.getD (a' - 1) default):=fun k q1 q2=>h (a' - 1) k (by omega) (by omega) (by omega) (.inl (by omega))
end
set_option linter.unusedSimpArgs false
set_option maxRecDepth 100000
abbrev ltI (x y:Int):Prop:=x<y
theorem qaj {h0:AH} (w:WfH h0) (x:Int):Fn Tryz.prog Xh 142 [.int .i64 x] h0 (fun v h'=>v = .bool false∧Hs h0 h' []):=by
 have S:=Hs.start w
 refine qF rfl Tryz.func142 rfl rfl ?_
 all_goals (repeat' (first|refine qi ?_|(refine qf 0 ?_;refine mv ?_;refine qg ?_)|(refine qf 1 ?_;refine mv ?_;refine mv ?_;(refine cF ?_)<;>(refine mv ?_;refine qg ?_))))
 refine qx ⟨_,rfl,?_⟩
 exact ⟨rfl,S⟩
end Go.Proofs.Xx
namespace Go.Proofs.Xx
open Go Go.RowKit
set_option linter.unusedSimpArgs false
set_option linter.unusedVariables false
section
variable {H:Type} {enc:TypeId×Value→H} {P:Program} {W W':World}
theorem JJ {α β:Type} {f g:α→Option β}:∀ {l:List α} {r:List β},l.mapM f=some r→(∀ a b,a∈l→b∈r→f a=some b→g a=some b)→l.mapM g=some r:=by
 intro l
 induction l with
 | nil=>intro r h _;simpa using h
 | cons a l ih =>
  intro r h hk
  rw [List.mapM_cons] at h ⊢
  cases hf:f a with
  | none=>rw [hf] at h;cases h
  | some b =>
   rw [hf] at h
   cases hm:l.mapM f with
   | none=>rw [hm] at h;cases h
   | some r' =>
    rw [hm] at h
    simp at h
    subst h
    rw [hk a b (by simp) (by simp) hf,ih hm fun x y hx hy=>hk x y (by simp [hx]) (by simp [hy])]
    rfl
theorem qbj (hb:∀ k,k<W.heap.size→W'.heap[k]? = W.heap[k]?) {base n:Nat} {a:Addr} {cs:List Value} (h:W.cells? base a n=some cs):W'.cells? base a n=some cs:=by
 unfold World.cells? at h ⊢
 split at h
 ·rename_i hba
  rw [if_pos hba]
  refine JJ h fun i v _ _ hv=>?_
  have hlt:(a.add i).block<W.heap.size:=by
   rcases Nat.lt_or_ge (a.add i).block W.heap.size with q|q
   ·exact q
   ·have:W.cell? (a.add i)=none:=by
     unfold World.cell?
     rw [Array.getElem?_eq_none q]
    rw [this] at hv;cases hv
  rw [← hv]
  exact World.cell?_of_block (w:=W) (hb _ hlt)
 ·cases h
def wC (P:Program):List Field→Nat→Nat→Bool
 | [],at_,n=>Nat.beq at_ n
 | f :: r,at_,n=>Nat.beq f.offset at_ && wC P r (at_+P.cellsOf f.type) n
def Q9 (P:Program):Nat→TypeId→Bool
 | 0,_=>false
 | m+1,t=>match P.underlying t with
  | some .bool|some .string=>Nat.beq (P.cellsOf t) 1
  | some (.int _)=>Nat.beq (P.cellsOf t) 1
  | some (.slice e)=>Nat.beq (P.cellsOf t) 1 && (Q9 P m e && !Nat.beq (P.cellsOf e) 0)
  | some (.struct fs)=>fs.toList.all (fun f=>Q9 P m f.type) && wC P fs.toList 0 (P.cellsOf t)
  | some (.array n e)=>Q9 P m e && Nat.beq (P.cellsOf t) (n*P.cellsOf e)
  | _=>false
theorem qcf (hb:∀ k,k<W.heap.size→W'.heap[k]? = W.heap[k]?) {base:Nat} {sp:Nat→Bool} {held:Bool}:∀ (fuel m:Nat) (t:TypeId) (cs:List Value) (x:DataW H×List MemPlace),Q9 P m t=true →
 DataW.trod enc P W base (fun _=>true) held fuel t cs=some x→(∀ p∈x.2,sp p.block=true)→DataW.trod enc P W' base sp held fuel t cs=some x:=by
 intro fuel
 induction fuel with
 | zero=>intro m t cs x _ h _;cases h
 | succ fuel ih =>
  intro m t cs x hp h hsp
  cases m with
  | zero=>cases hp
  | succ m =>
  unfold Q9 at hp
  cases hu:P.underlying t with
  | none=>rw [hu] at hp;cases hp
  | some u =>
   rw [hu] at hp
   cases u with
   | bool=>obtain ⟨b,rfl,rfl⟩:=DataW.trod_bool hu h;unfold DataW.trod;rw [hu]
   | int k =>
    obtain ⟨b,rfl,rfl,hwf⟩:=DataW.trod_int hu h
    unfold DataW.trod;rw [hu]
    simp [hwf]
   | string =>
    obtain ⟨b,rfl,rfl,hs⟩:=DataW.trod_string hu h
    unfold DataW.trod;rw [hu]
    simp [hs]
   | struct fs =>
    simp only [Bool.and_eq_true,List.all_eq_true] at hp
    unfold DataW.trod at h ⊢
    rw [hu] at h ⊢
    simp only at h ⊢
    split at h
    ·rename_i hc
     rw [if_pos hc]
     simp only [Option.map_eq_some_iff] at h ⊢
     obtain ⟨xs,h1,rfl⟩:=h
     refine ⟨xs,JJ h1 fun f y hf hy hq=>ih m _ _ _ (hp.1 f hf) hq fun p hp=>hsp p ?_,rfl⟩
     simp only [List.mem_flatMap]
     exact ⟨y,hy,hp⟩
    ·cases h
   | array n e =>
    simp only [Bool.and_eq_true] at hp
    unfold DataW.trod at h ⊢
    rw [hu] at h ⊢
    simp only at h ⊢
    split at h
    ·rename_i hc
     rw [if_pos hc]
     simp only [Option.map_eq_some_iff] at h ⊢
     obtain ⟨xs,h1,rfl⟩:=h
     refine ⟨xs,JJ h1 fun f y hf hy hq=>ih m _ _ _ hp.1 hq fun p hp=>hsp p ?_,rfl⟩
     simp only [List.mem_flatMap]
     exact ⟨y,hy,hp⟩
    ·cases h
   | slice e =>
    simp only [Bool.and_eq_true,Bool.not_eq_true'] at hp
    have hz:P.cellsOf e≠0:=fun q=>by have:=hp.2.2;rw [q] at this;simp at this
    rcases DataW.trod_slice hu h with ⟨rfl,rfl⟩|⟨a,len,cap,-,-,-,-,rfl,-⟩
    ·unfold DataW.trod;rw [hu];rfl
    ·unfold DataW.trod at h ⊢
     rw [hu] at h ⊢
     simp only at h ⊢
     split at h
     ·rename_i hc
      rw [if_pos hc]
      simp only [if_true,Option.map_eq_some_iff,Option.bind_eq_some_iff] at h ⊢
      obtain ⟨elems,h1,rest,h2,rfl⟩:=h
      have key:∀ i y,y∈elems ++ rest→(W.cells? base (a.add (i*P.cellsOf e)) (P.cellsOf e)).bind (DataW.trod enc P W base (fun _=>true) held fuel e)=some y →
       (W'.cells? base (a.add (i*P.cellsOf e)) (P.cellsOf e)).bind (DataW.trod enc P W' base sp held fuel e)=some y:=by
       intro i y hy hq
       rw [Option.bind_eq_some_iff] at hq ⊢
       obtain ⟨cs',q1,q2⟩:=hq
       refine ⟨cs',qbj hb q1,ih m _ _ _ hp.2.1 q2 fun p hp=>hsp p ?_⟩
       simp only [List.mem_append,List.mem_flatMap]
       exact .inr ⟨y,by simpa using hy,hp⟩
      refine ⟨elems,JJ h1 fun i y _ hy hq=>key i y (by simp [hy]) hq,rest,?_,rfl⟩
      cases hs:sp a.block with
      | true =>
       simp only [if_true]
       exact JJ h2 fun i y _ hy hq=>key (len+i) y (by simp [hy]) hq
      | false =>
       simp only [Bool.false_eq_true,if_false]
       cases rest with
       | nil=>rfl
       | cons y rest =>
        have hp':sp a.block=true:=by
         refine hsp (.cell a.block (a.off+0)) ?_
         simp only [List.mem_append]
         refine .inl ?_
         unfold MemPlace.row
         rw [List.mem_map]
         exact ⟨0,List.mem_range.2 (Nat.mul_pos (by simp only [List.length_cons];omega) (by omega)),rfl⟩
        rw [hs] at hp';cases hp'
     ·cases h
   | _=>cases hp
theorem YT (hb:∀ k,k<W.heap.size→W'.heap[k]? = W.heap[k]?) {base:Nat} {sp:Nat→Bool} {held:Bool}:∀ (ts:List TypeId) (vs:List Value) (ds:List (DataW H)) (ps:List MemPlace),ts.all (Q9 P 20)=true →
 DataW.TrodAll enc P W base (fun _=>true) held ts vs ds ps→(∀ p∈ps,sp p.block=true)→DataW.TrodAll enc P W' base sp held ts vs ds ps
 | [],[],[],ps,_,h,_=>h
 | t :: ts,v :: vs,d :: ds,ps,hp,h,hsp=>by
  simp only [List.all_cons,Bool.and_eq_true] at hp
  obtain ⟨p,q,⟨fuel,h1⟩,h2,rfl⟩:=h
  exact ⟨p,q,⟨fuel,qcf hb fuel 20 t _ _ hp.1 h1 fun x hx=>hsp x (by simp [hx])⟩,YT hb ts vs ds q hp.2 h2 fun x hx=>hsp x (by simp [hx]),rfl⟩
 | [],[],_ :: _,_,_,h,_=>h.elim
 | [],_ :: _,_,_,_,h,_=>h.elim
 | _ :: _,[],_,_,_,h,_=>h.elim
 | _ :: _,_ :: _,[],_,_,h,_=>h.elim
end
end Go.Proofs.Xx
namespace Go.Proofs.Xx
open Go Go.RowKit
set_option linter.unusedSimpArgs false
set_option linter.unusedVariables false
section
variable {P:Program}
theorem Rel.qb5 [Glob] {B:Bs} {e:Emb} {h:AH} {w:World} (r:Rel B e h w) {k sh:Nat} {cc:Array Value} {el:TypeId} {fr:Nat×Nat} {c:List Value} (hkB:k<B.lo) (hk:w.heap[k]? = some (.cells cc el fr)) (hsz:sh+c.length≤cc.size)
 (hc:∀ i v,c[i]? = some v→∃ v',cc[sh+i]? = some v'∧VR (e.put h.next ⟨k,sh,0⟩) v v') :
 Rel B (e.put h.next ⟨k,sh,0⟩) (h.add (.cells c el none true)) w∧e.le (e.put h.next ⟨k,sh,0⟩):=by
 have hle:=r.JX ⟨k,sh,0⟩
 have hlt:k<w.heap.size:=(Array.getElem?_eq_some_iff.1 hk).1
 refine ⟨⟨fun b M q=>?_,fun b hb=>?_,fun b M q=>?_,fun b M p q1 q2=>?_,fun b M p b' M' p' e1 e2 e3 e4 e5 e6 e7=>?_,fun b M p q1 q2 q3=>?_,r.base,r.keep,r.glob⟩,hle⟩
 ·by_cases hb:b=h.next
  ·subst hb;exact Nat.lt_succ_self _
  ·rw [Emb.zy _ _ hb] at q;exact Nat.lt_succ_of_lt (r.dom b M q)
 ·have hb':h.next+1≤b:=hb
  rw [AH.zi,if_neg (by omega)];exact r.wf b (by omega)
 ·by_cases hb:b=h.next
  ·subst hb;rw [Emb.qZ] at q;cases q;exact hlt
  ·rw [Emb.zy _ _ hb] at q;exact r.rng b M q
 ·rw [AH.zi] at q2
  by_cases hb:b=h.next
  ·subst hb;rw [Emb.qZ] at q1;cases q1;rw [if_pos rfl] at q2;cases q2
   exact ⟨cc,fr,hk,hsz,hc,(fun _=>⟨rfl,fun q=>by cases q⟩),(fun _ q=>by cases q),(fun q=>by cases q)⟩
  ·rw [Emb.zy _ _ hb] at q1;rw [if_neg hb] at q2
   exact (r.obj b M p q1 q2).mono hle
 ·rw [AH.zi] at e2 e4
  by_cases hb':b'=h.next
  ·subst hb';rw [if_pos rfl] at e4;cases e4;cases e7
  ·rw [Emb.zy _ _ hb'] at e3;rw [if_neg hb'] at e4
   by_cases hb:b=h.next
   ·subst hb
    rw [Emb.qZ] at e1;cases e1
    rw [if_pos rfl] at e2;cases e2
    have:=r.own b' M' p' e3 e4 e7
    simp only at e5;omega
   ·rw [Emb.zy _ _ hb] at e1;rw [if_neg hb] at e2
    exact r.inj b M p b' M' p' e1 e2 e3 e4 e5 e6 e7
 ·rw [AH.zi] at q2
  by_cases hb:b=h.next
  ·subst hb;rw [if_pos rfl] at q2;cases q2;cases q3
  ·rw [Emb.zy _ _ hb] at q1;rw [if_neg hb] at q2
   exact r.own b M p q1 q2 q3
def Bs.of (w:World):Bs:=⟨w.heap.size,w.heap⟩
def RoH (h:AH):Prop:=∀ b o,h.get b=some o→JC o=false
structure WRel [Glob] (w:World) (e:Emb) (h:AH):Prop where
 rel:Rel (Bs.of w) e h w
 ro:RoH h
theorem WRel.empty [Glob] {w:World} (hg:Glob.ok w.heap.size w.heap):WRel w (fun _=>none) ⟨.e,0,0⟩ :=
 ⟨⟨fun b L q=>(by cases q),fun b _=>Tr.kG b,fun b L q=>(by cases q),fun b L o q=>(by cases q),fun b L o b' L' o' q=>(by cases q),fun b L o q=>(by cases q),Nat.le_refl _,fun _ _=>rfl,hg⟩,
  fun b o q=>by rw [show (⟨.e,0,0⟩:AH).get b=none from Tr.kG b] at q;cases q⟩
theorem WRel.wfH [Glob] {w:World} {e:Emb} {h:AH} (r:WRel w e h):WfH h:=r.rel.wf
theorem WRel.qb5 [Glob] {e:Emb} {h:AH} {w:World} (r:WRel w e h) {k sh:Nat} {cc:Array Value} {el:TypeId} {fr:Nat×Nat} {c:List Value} (hk:w.heap[k]? = some (.cells cc el fr)) (hsz:sh+c.length≤cc.size)
 (hc:∀ i v,c[i]? = some v→∃ v',cc[sh+i]? = some v'∧VR e v v') :
 ∃ e',WRel w e' (h.add (.cells c el none true))∧e.le e'∧Ext h (h.add (.cells c el none true))∧e' h.next=some ⟨k,sh,0⟩:=by
 have hle:=r.rel.JX ⟨k,sh,0⟩
 obtain ⟨r1,r2⟩:=Rel.qb5 (sh:=sh) (c:=c) r.rel (show k<w.heap.size from (Array.getElem?_eq_some_iff.1 hk).1) hk hsz (fun i v hi=>by obtain ⟨v',h1,h2⟩:=hc i v hi;exact ⟨v',h1,h2.mono hle⟩)
 refine ⟨_,⟨r1,fun b o q=>?_⟩,r2,(Ext.refl r.wfH).add _,Emb.qZ _ _ _⟩
 rw [AH.zi] at q
 split at q
 ·cases q;rfl
 ·exact r.ro b o q
def AR (P:Program) (h:AH):Nat→TypeId→List Value→Prop
 | 0,_,_=>False
 | f+1,t,cs =>
  match P.underlying t,cs with
  | some .bool,[.bool _]=>True
  | some (.int k),[.int k' n]=>k'=k∧(Lit.int k n).wf=true
  | some .string,[.string s]=>s.size≤maxLen
  | some (.slice e),[v]=>∃ n c,Rd h v (P.cellsOf e) n c∧n≤maxLen∧XR v∧∀ i,i<n→AR P h f e ((c.drop (i*P.cellsOf e)).take (P.cellsOf e))
  | some (.struct fs),cs=>cs.length=P.cellsOf t∧∀ fd∈fs.toList,AR P h f fd.type ((cs.drop fd.offset).take (P.cellsOf fd.type))
  | some (.array n e),cs=>cs.length=P.cellsOf t∧∀ i,i<n→AR P h f e ((cs.drop (i*P.cellsOf e)).take (P.cellsOf e))
  | _,_=>False
theorem AR.ext {h h':AH} (w:WfH h) (x:Ext h h'):∀ (f:Nat) (t:TypeId) (cs:List Value),AR P h f t cs→AR P h' f t cs
 | 0,_,_,q=>q
 | f+1,t,cs,q=>by
  unfold AR at q ⊢
  split at q
  ·exact q
  ·exact q
  ·exact q
  ·obtain ⟨n,c,h1,h2,hc,h3⟩:=q
   exact ⟨n,c,h1.ext w x,h2,hc,fun i hi=>AR.ext w x f _ _ (h3 i hi)⟩
  ·exact ⟨q.1,fun fd hf=>AR.ext w x f _ _ (q.2 fd hf)⟩
  ·exact ⟨q.1,fun i hi=>AR.ext w x f _ _ (q.2 i hi)⟩
  ·exact q
section
variable {H:Type} {enc:TypeId×Value→H}
theorem GU:∀ (fs:List Field) (a n:Nat),wC P fs a n=true→a≤n
 | [],a,n,h=>by have:=Nat.eq_of_beq_eq_true h;omega
 | f :: r,a,n,h=>by
  simp only [wC,Bool.and_eq_true] at h
  have:=GU r _ n h.2
  omega
def qey [Glob] (enc:TypeId×Value→H) (P:Program) (w:World) (base:Nat) (sp:Nat→Bool) (held:Bool) (n:Nat) (t:TypeId) (cs:List Value):Prop:=∀ e h,WRel w e h→∃ e' h' r,WRel w e' h'∧e.le e'∧Ext h h'∧VRs e' r cs∧AR P h' n t r
theorem WI [Glob] {w:World} {base n:Nat} {sp:Nat→Bool} {held:Bool} {cs:List Value}:∀ (fs:List Field) (a:Nat),wC P fs a cs.length=true →
 (∀ fd∈fs,qey enc P w base sp held n fd.type ((cs.drop fd.offset).take (P.cellsOf fd.type)))→∀ e h,WRel w e h →
 ∃ e' h' r,WRel w e' h'∧e.le e'∧Ext h h'∧VRs e' r (cs.drop a)∧∀ fd∈fs,a≤fd.offset∧AR P h' n fd.type ((r.drop (fd.offset - a)).take (P.cellsOf fd.type))
 | [],a,ht,_,e,h,r=>by
  have:=Nat.eq_of_beq_eq_true ht
  exact ⟨e,h,[],r,e.le_refl,Ext.refl r.wfH,by rw [this,List.drop_length];exact .nil,fun fd q=>by cases q⟩
 | f :: fs,a,ht,hk,e,h,r=>by
  simp only [wC,Bool.and_eq_true] at ht
  have hoff:=Nat.eq_of_beq_eq_true ht.1
  have hle:=GU fs _ _ ht.2
  obtain ⟨e1,h1,c1,r1,l1,x1,v1,a1⟩:=hk f (by simp) e h r
  obtain ⟨e2,h2,c2,r2,l2,x2,v2,a2⟩:=WI fs _ ht.2 (fun fd q=>hk fd (by simp [q])) e1 h1 r1
  have hc1:c1.length=P.cellsOf f.type:=by
   have:=v1.length
   rw [List.length_take,List.length_drop,hoff] at this
   omega
  refine ⟨e2,h2,c1 ++ c2,r2,Emb.le_trans l1 l2,x1.trans x2,?_,?_⟩
  ·have:=(v1.mono l2).append v2
   rw [hoff,← List.drop_drop,List.take_append_drop] at this
   exact this
  ·intro fd q
   rcases List.mem_cons.1 q with rfl|q
   ·refine ⟨by omega,?_⟩
    rw [hoff,Nat.sub_self,List.drop_zero,List.take_append_of_le_length (by omega),List.take_of_length_le (by omega)]
    exact a1.ext r1.wfH x2 _ _ _
   ·obtain ⟨q1,q2⟩:=a2 fd q
    refine ⟨by omega,?_⟩
    rw [show fd.offset - a=c1.length+(fd.offset - (a+P.cellsOf f.type)) by omega,← List.drop_drop,List.drop_left]
    exact q2
theorem yQ [Glob] {w:World} {base n:Nat} {sp:Nat→Bool} {held:Bool} {ty:TypeId} {z:Nat} {cs:List Value}:∀ (k:Nat),k*z≤cs.length →
 (∀ i,i<k→qey enc P w base sp held n ty ((cs.drop (i*z)).take z))→∀ e h,WRel w e h →
 ∃ e' h' r,WRel w e' h'∧e.le e'∧Ext h h'∧VRs e' r (cs.take (k*z))∧∀ i,i<k→AR P h' n ty ((r.drop (i*z)).take z)
 | 0,_,_,e,h,r=>⟨e,h,[],r,e.le_refl,Ext.refl r.wfH,by simp;exact .nil,fun i q=>by omega⟩
 | k+1,hk,ht,e,h,r=>by
  rw [Nat.add_mul,Nat.one_mul] at hk
  obtain ⟨e1,h1,c1,r1,l1,x1,v1,a1⟩:=yQ k (by omega) (fun i q=>ht i (by omega)) e h r
  obtain ⟨e2,h2,c2,r2,l2,x2,v2,a2⟩:=ht k (by omega) e1 h1 r1
  have hc1:c1.length=k*z:=by
   have:=v1.length
   rw [List.length_take] at this;omega
  have hc2:c2.length=z:=by
   have:=v2.length
   rw [List.length_take,List.length_drop] at this;omega
  refine ⟨e2,h2,c1 ++ c2,r2,Emb.le_trans l1 l2,x1.trans x2,?_,fun i hi=>?_⟩
  ·have:=(v1.mono l2).append v2
   rw [Nat.add_mul,Nat.one_mul,List.take_add]
   exact this
  ·by_cases hik:i<k
   ·have:(i+1)*z≤k*z:=Nat.mul_le_mul_right z hik
    rw [Nat.add_mul,Nat.one_mul] at this
    rw [List.drop_append_of_le_length (by omega),List.take_append_of_le_length (by rw [List.length_drop];omega)]
    exact (a1 i hik).ext r1.wfH x2 _ _ _
   ·obtain rfl:i=k:=by omega
    rw [← hc1,List.drop_left,List.take_of_length_le (by omega)]
    exact a2
theorem embed [Glob] {w:World} {base:Nat} {sp:Nat→Bool} (hsp:∀ b,sp b=true) {held:Bool} (hw:∃ (k:Nat) (cc:Array Value) (el:TypeId) (fr:Nat×Nat),w.heap[k]? = some (.cells cc el fr)):∀ (n m:Nat) (t:TypeId) (cs:List Value) (x:DataW H×List MemPlace),Q9 P m t=true →
 DataW.trod enc P w base sp held n t cs=some x→qey enc P w base sp held n t cs
 | 0,_,_,_,_,_,h=>by simp [DataW.trod] at h
 | _+1,0,_,_,_,h,_=>by cases h
 | n+1,m+1,t,cs,x,hp,h=>by
  intro e h0 r
  unfold Q9 at hp
  cases hu:P.underlying t with
  | none=>rw [hu] at hp;cases hp
  | some u =>
   rw [hu] at hp
   cases u with
   | bool =>
    obtain ⟨b,rfl,-⟩:=DataW.trod_bool hu h
    exact ⟨e,h0,[.bool b],r,e.le_refl,Ext.refl r.wfH,.one (.bool b),by unfold AR;rw [hu];trivial⟩
   | int k =>
    obtain ⟨b,rfl,-,hwf⟩:=DataW.trod_int hu h
    exact ⟨e,h0,[.int k b],r,e.le_refl,Ext.refl r.wfH,.one (.int k b),by unfold AR;rw [hu];exact ⟨rfl,hwf⟩⟩
   | string =>
    obtain ⟨s,rfl,-,hs⟩:=DataW.trod_string hu h
    exact ⟨e,h0,[.string s],r,e.le_refl,Ext.refl r.wfH,.one (.string s),by unfold AR;rw [hu];exact hs⟩
   | struct fs =>
    simp only [Bool.and_eq_true,List.all_eq_true] at hp
    obtain ⟨xs,n',hn,-,hlen,hxl,hf⟩:=DataW.trod_struct hu h
    obtain rfl:n'=n:=by omega
    obtain ⟨e1,h1,c1,r1,l1,x1,v1,a1⟩:=WI fs.toList 0 (by rw [hlen];exact hp.2) (fun fd hfd=>by
     obtain ⟨i,hi,rfl⟩:=List.getElem_of_mem hfd
     have hg:fs[i]? = some fs.toList[i]:=by rw [← Array.getElem?_toList];exact List.getElem?_eq_getElem hi
     have h2:=hf i _ hg
     have hix:i<xs.length:=by rw [hxl];simpa using hi
     rw [List.getElem?_eq_getElem hix] at h2
     exact embed hsp hw n' m _ _ _ (hp.1 _ (List.getElem_mem hi)) h2) e h0 r
    refine ⟨e1,h1,c1,r1,l1,x1,by simpa using v1,?_⟩
    unfold AR;rw [hu]
    have hl1:=v1.length
    simp only [List.drop_zero] at hl1
    exact ⟨by omega,fun fd hfd=>by have:=(a1 fd hfd).2;simpa using this⟩
   | array k el =>
    simp only [Bool.and_eq_true] at hp
    have hsz:=Nat.eq_of_beq_eq_true hp.2
    obtain ⟨xs,n',hn,-,hlen,hxl,hf⟩:=DataW.trod_array hu h
    obtain rfl:n'=n:=by omega
    obtain ⟨e1,h1,c1,r1,l1,x1,v1,a1⟩:=yQ (z:=P.cellsOf el) (ty:=el) (cs:=cs) k (by omega) (fun i hi=>by
     have h2:=hf i hi
     have hix:i<xs.length:=by omega
     rw [List.getElem?_eq_getElem hix] at h2
     exact embed hsp hw n' m _ _ _ hp.1 h2) e h0 r
    rw [List.take_of_length_le (by omega)] at v1
    refine ⟨e1,h1,c1,r1,l1,x1,v1,?_⟩
    unfold AR;rw [hu]
    exact ⟨by have:=v1.length;omega,a1⟩
   | slice el =>
    simp only [Bool.and_eq_true,Bool.not_eq_true'] at hp
    have hz:P.cellsOf el≠0:=fun q=>by have:=hp.2.2;rw [q] at this;simp at this
    rcases DataW.trod_slice hu h with ⟨rfl,-⟩|⟨a,len,cap,elems,rest,n',hn,rfl,-,hb,hl,hm,hlen,hel,hrest,-⟩
    ·refine ⟨e,h0,[.slice none 0 0],r,e.le_refl,Ext.refl r.wfH,.one .nilSlice,?_⟩
     unfold AR;rw [hu]
     exact ⟨0,[],Rd.none_ _ _,Nat.zero_le _,Nat.le_refl _,fun i hi=>by omega⟩
    ·obtain rfl:n'=n:=by omega
     obtain ⟨hr1,hr2⟩:=hrest (hsp _)
     rcases Nat.eq_zero_or_pos cap with hc0|hc0
     ·subst hc0
      obtain rfl:len=0:=by omega
      obtain ⟨k,cc,el0,fr,hk⟩:=hw
      obtain ⟨e1,r1,l1,x1,q1⟩:=r.qb5 (sh:=0) (c:=[]) hk (by simp) (fun i v hi=>by simp at hi)
      refine ⟨e1,_,[.slice (some ⟨h0.next,0,none⟩) 0 0],r1,l1,x1,.one (.slice h0.next 0 a 0 0 ⟨k,0,0⟩ q1 (Nat.le_refl _) (.inr ⟨rfl,rfl⟩)),?_⟩
      unfold AR;rw [hu]
      exact ⟨0,[],.inr ⟨h0.next,0,0,[],el0,none,true,rfl,by rw [AH.zi,if_pos rfl],by simp [zx]⟩,Nat.zero_le _,Nat.le_refl _,fun i hi=>by omega⟩
     ·
      have hfirst:∃ cs0 y,w.cells? base a (P.cellsOf el)=some cs0∧DataW.trod enc P w base sp held n' el cs0=some y:=by
       rcases Nat.eq_zero_or_pos len with h0'|h0'
       ·have h2:=hr2 0 (by omega)
        have hix:0<rest.length:=by omega
        rw [List.getElem?_eq_getElem hix,h0',Option.bind_eq_some_iff] at h2
        obtain ⟨cs0,q1,q2⟩:=h2
        exact ⟨cs0,_,by simpa [Addr.add] using q1,q2⟩
       ·have h2:=hel 0 h0'
        have hix:0<elems.length:=by omega
        rw [List.getElem?_eq_getElem hix,Option.bind_eq_some_iff] at h2
        obtain ⟨cs0,q1,q2⟩:=h2
        exact ⟨cs0,_,by simpa [Addr.add] using q1,q2⟩
      obtain ⟨cs0,y0,g1,-⟩:=hfirst
      obtain ⟨-,g2,g3⟩:=World.cells?_some g1
      have g4:=g3 0 (by omega)
      rw [List.getElem?_eq_getElem (by omega)] at g4
      obtain ⟨ab,ao,asp⟩:=a
      simp only [Addr.add,if_true] at g4
      unfold World.cell? at g4
      simp only at g4
      cases hblk:w.heap[ab]? with
      | none=>rw [hblk] at g4;cases g4
      | some ob =>
       rw [hblk] at g4
       cases ob with
       | cells cc el0 fr =>
        simp only at g4
        cases asp with
        | some s=>simp at g4
        | none =>
         simp only [Option.isSome_none,Bool.false_eq_true,if_false] at g4
         have hao:ao<cc.size:=(Array.getElem?_eq_some_iff.1 g4).1
         have hcell:∀ (i:Nat) (v:Value),w.cell? ⟨ab,ao+i,none⟩=some v↔cc[ao+i]? = some v:=fun i v=>by
          unfold World.cell?
          simp [hblk]
         have helem:∀ i,i<len→∃ y,DataW.trod enc P w base sp held n' el (((cc.toList.drop ao).drop (i*P.cellsOf el)).take (P.cellsOf el))=some y∧ao+i*P.cellsOf el+P.cellsOf el≤cc.size:=by
          intro i hi
          have h2:=hel i hi
          have hix:i<elems.length:=by omega
          rw [List.getElem?_eq_getElem hix,Option.bind_eq_some_iff] at h2
          obtain ⟨ci,q1,q2⟩:=h2
          obtain ⟨-,q3,q4⟩:=World.cells?_some q1
          have hadd:∀ j,((⟨ab,ao,none⟩:Addr).add (i*P.cellsOf el)).add j=⟨ab,ao+(i*P.cellsOf el+j),none⟩:=fun j=>by rw [jR,jR,Nat.add_assoc]
          have hlast:ao+i*P.cellsOf el+P.cellsOf el≤cc.size:=by
           have q5:=q4 (P.cellsOf el - 1) (by omega)
           rw [List.getElem?_eq_getElem (by omega),hadd,hcell] at q5
           have:=(Array.getElem?_eq_some_iff.1 q5).1
           omega
          refine ⟨elems[i],?_,hlast⟩
          rw [← q2]
          congr 1
          refine List.ext_getElem? fun j=>?_
          by_cases hj:j<P.cellsOf el
          ·rw [List.getElem?_take,if_pos hj,List.getElem?_drop,List.getElem?_drop]
           have q5:=q4 j hj
           have e2:ci[j]? = some (ci[j]'(by omega)):=List.getElem?_eq_getElem (by omega)
           rw [e2,hadd,hcell] at q5
           rw [e2,Array.getElem?_toList]
           exact q5
          ·rw [List.getElem?_eq_none (by rw [List.length_take];omega),List.getElem?_eq_none (by omega)]
         have hfit:ao+len*P.cellsOf el≤cc.size:=by
          rcases Nat.eq_zero_or_pos len with h0'|h0'
          ·rw [h0',Nat.zero_mul];omega
          ·obtain ⟨-,-,q⟩:=helem (len - 1) (by omega)
           have:(len - 1)*P.cellsOf el+P.cellsOf el=len*P.cellsOf el:=by
            rw [← Nat.succ_mul];congr 1;omega
           omega
         obtain ⟨e1,h1,c1,r1,l1,x1,v1,a1⟩:=yQ (z:=P.cellsOf el) (ty:=el) (cs:=cc.toList.drop ao) len (by simp;omega) (fun i hi=>by
          obtain ⟨y,q1,-⟩:=helem i hi
          exact embed hsp hw n' m _ _ _ hp.2.1 q1) e h0 r
         have hc1:c1.length=len*P.cellsOf el:=by
          have:=v1.length
          rw [List.length_take,List.length_drop,Array.length_toList] at this;omega
         obtain ⟨e2,r2,l2,x2,q2⟩:=r1.qb5 (sh:=ao) (c:=c1) hblk (by omega) (fun i v hi=>by
          obtain ⟨v',q1,q2⟩:=v1.get i v hi
          refine ⟨v',?_,q2⟩
          rw [List.getElem?_take,List.getElem?_drop,Array.getElem?_toList] at q1
          split at q1
          ·exact q1
          ·cases q1)
         refine ⟨e2,_,[.slice (some ⟨h1.next,0,none⟩) len cap],r2,Emb.le_trans l1 l2,x1.trans x2,.one (.slice h1.next 0 ⟨ab,ao,none⟩ len cap ⟨ab,ao,0⟩ q2 hl (.inl rfl)),?_⟩
         unfold AR;rw [hu]
         refine ⟨len,c1,.inr ⟨h1.next,0,cap,c1,el0,none,true,rfl,by rw [AH.zi,if_pos rfl],by rw [← hc1];exact jm c1⟩,by omega,hl,fun i hi=>(a1 i hi).ext r1.wfH x2 _ _ _⟩
       | _=>cases g4
   | _=>cases hp
end
end
end Go.Proofs.Xx
namespace Go.Proofs.Xx
open Go Go.RowKit Go.WideShapes Go.ChangeShapes
set_option linter.unusedSimpArgs false
set_option linter.unusedVariables false
theorem VRs.W9 {e:Emb} {r:List Value} {v:Value} (h:VRs e r [v]):∃ u,r=[u]∧VR e u v:=by
 cases h with
 | cons u v' s s' h1 h2=>cases h2;exact ⟨u,rfl,h1⟩
section
variable {P:Program}
def qet (P:Program) (t:TypeId) (r:List Value):Value :=
 match P.underlying t with
 | some (.struct _)|some (.array _ _)=>.agg r.toArray
 | _=>r.headD .nilFunc
theorem qfx {w:World} {rc:Reach} {b0 m:Nat} {t:TypeId} {v:Value} {e:Emb} {r:List Value} (hp:Q9 P m t=true) (hval:Value.okWide P w rc b0 t v) (hv:VRs e r v.cells.toList):VR e (qet P t r) v:=by
 cases m with
 | zero=>cases hp
 | succ m =>
  unfold Q9 at hp
  unfold qet
  unfold Value.okWide at hval
  cases hu:P.underlying t with
  | none=>rw [hu] at hp;cases hp
  | some u =>
   rw [hu] at hp hval
   cases u with
   | struct fs =>
    obtain ⟨cs,rfl,-⟩:=hval
    exact VR.agg (f:=e) r cs.toList (by simpa [Value.cells] using hv)
   | array n el =>
    obtain ⟨cs,rfl,-⟩:=hval
    exact VR.agg (f:=e) r cs.toList (by simpa [Value.cells] using hv)
   | bool =>
    have:∃ b,v = .bool b:=by cases v<;>simp_all [Cell.okWide,Cell.ok]
    obtain ⟨b,rfl⟩:=this
    obtain ⟨x,rfl,h1⟩:=VRs.W9 (show VRs e r [.bool b] from hv)
    exact h1
   | int k =>
    have:∃ k' b,v = .int k' b:=by cases v<;>simp_all [Cell.okWide,Cell.ok]
    obtain ⟨k',b,rfl⟩:=this
    obtain ⟨x,rfl,h1⟩:=VRs.W9 (show VRs e r [.int k' b] from hv)
    exact h1
   | string =>
    have:∃ b,v = .string b:=by cases v<;>simp_all [Cell.okWide,Cell.ok]
    obtain ⟨b,rfl⟩:=this
    obtain ⟨x,rfl,h1⟩:=VRs.W9 (show VRs e r [.string b] from hv)
    exact h1
   | slice el =>
    have:∃ a l c,v = .slice a l c:=by cases v<;>simp_all [Cell.okWide,Cell.ok]
    obtain ⟨a,l,c,rfl⟩:=this
    obtain ⟨x,rfl,h1⟩:=VRs.W9 (show VRs e r [.slice a l c] from hv)
    exact h1
   | _=>cases hp
def ArgsR (P:Program) (h:AH):List TypeId→List Value→Prop
 | [],[]=>True
 | t :: ts,u :: us=>(∃ n r,AR P h n t r∧u=qet P t r)∧ArgsR P h ts us
 | _,_=>False
theorem ArgsR.ext {h h':AH} (w:WfH h) (x:Ext h h'):∀ (ts:List TypeId) (us:List Value),ArgsR P h ts us→ArgsR P h' ts us
 | [],[],q=>q
 | t :: ts,u :: us,q=>⟨let ⟨n,r,h1,h2⟩:=q.1;⟨n,r,h1.ext w x _ _ _,h2⟩,ArgsR.ext w x ts us q.2⟩
 | [],_ :: _,q=>q.elim
 | _ :: _,[],q=>q.elim
theorem ArgsR.cons_inv {h:AH} {t:TypeId} {ts:List TypeId} {us:List Value} (a:ArgsR P h (t :: ts) us):∃ n r us',us=qet P t r :: us'∧AR P h n t r∧ArgsR P h ts us':=by
 cases us with
 | nil=>exact a.elim
 | cons u us =>
  obtain ⟨⟨n,r,h1,rfl⟩,h2⟩:=a
  exact ⟨n,r,us,rfl,h1,h2⟩
theorem ArgsR.QK {h:AH} {us:List Value} (a:ArgsR P h [] us):us=[]:=by
 cases us with
 | nil=>rfl
 | cons u us=>exact a.elim
section
variable {H:Type} {enc:TypeId×Value→H}
theorem kN [Glob] {w:World} {rc:Reach} {b0 base:Nat} {held:Bool} (hw:∃ (k:Nat) (cc:Array Value) (el:TypeId) (fr:Nat×Nat),w.heap[k]? = some (.cells cc el fr)):∀ (ts:List TypeId) (vs:List Value) (ds:List (DataW H)) (ps:List MemPlace),
 ts.all (Q9 P 20)=true→(∀ (j:Nat) t v,ts[j]? = some t→vs[j]? = some v→Value.okWide P w rc b0 t v)→DataW.TrodAll enc P w base (fun _=>true) held ts vs ds ps→∀ e h,WRel w e h →
 ∃ e' h' us,WRel w e' h'∧e.le e'∧Ext h h'∧VRs e' us vs∧ArgsR P h' ts us
 | [],[],[],_,_,_,_,e,h,r=>⟨e,h,[],r,e.le_refl,Ext.refl r.wfH,.nil,trivial⟩
 | t :: ts,v :: vs,d :: ds,ps,hp,hval,hA,e,h,r=>by
  simp only [List.all_cons,Bool.and_eq_true] at hp
  obtain ⟨p,q,⟨fuel,h1⟩,h2,rfl⟩:=hA
  obtain ⟨e1,g1,r1,w1,l1,x1,v1,a1⟩:=embed (fun _=>rfl) hw fuel 20 t _ _ hp.1 h1 e h r
  obtain ⟨e2,g2,us,w2,l2,x2,v2,a2⟩:=kN hw ts vs ds q hp.2 (fun j t v q1 q2=>hval (j+1) t v (by simpa using q1) (by simpa using q2)) h2 e1 g1 w1
  exact ⟨e2,g2,qet P t r1 :: us,w2,Emb.le_trans l1 l2,x1.trans x2,.cons _ _ _ _ (qfx hp.1 (hval 0 t v rfl rfl) (v1.mono l2)) v2,⟨fuel,r1,a1.ext w1.wfH x2 _ _ _,rfl⟩,a2⟩
 | [],[],_ :: _,_,_,_,h,_,_,_=>h.elim
 | [],_ :: _,_,_,_,_,h,_,_,_=>h.elim
 | _ :: _,[],_,_,_,_,h,_,_,_=>h.elim
 | _ :: _,_ :: _,[],_,_,_,h,_,_,_=>h.elim
theorem qcD [Glob] {X:Extern} (hm:P.follows .mixedOrders=true) (hX:Gw P X) (hN:∀ (f:FuncId) (fn:Func),P.funcs[f]? = some fn→fn.body.isSome=true→(fn.name == "runtime.NumGoroutine")=false)
 {f:FuncId} {fn:Func} {body:Code} (hfn:P.funcs[f]? = some fn) (hb:fn.body=some body) (hXn:∀ us h,X f us h=none) (hpl:fn.params.toList.all (Q9 P 20)=true)
 (core:∀ h us,WfH h→ArgsR P h fn.params.toList us→Fn P X f us h (fun x _=>x = .bool true))
 {w:World} {rc:Reach} {b0:Nat} {args:Array Value} {ds:List (DataW H)} {ps:List MemPlace} (hg:Glob.ok w.heap.size w.heap) (hw:∃ (k:Nat) (cc:Array Value) (el:TypeId) (fr:Nat×Nat),w.heap[k]? = some (.cells cc el fr))
 (hval:∀ (j:Nat) t v,fn.params[j]? = some t→args[j]? = some v→Value.okWide P w rc b0 t v) (hA:DataW.TrodAll enc P w 0 (fun _=>true) true fn.params.toList args.toList ds ps) :
 Calls P f args w fun e w'=>e = .returned (.bool true)∧Below w.heap.size w w':=by
 obtain ⟨e,h,us,r,-,-,v1,a1⟩:=kN (P:=P) hw fn.params.toList args.toList ds ps hpl (fun j t v q1 q2=>hval j t v (by simpa using q1) (by simpa using q2)) hA _ _ (WRel.empty hg)
 obtain ⟨n,v,h',hc,rfl⟩:=core h us r.wfH a1
 obtain ⟨e',v',w',r1,t1,hv,hcalls⟩:=qax (J7 hm hX hN n) hc (hXn us h) hfn hb r.rel v1
 cases hv
 rw [Array.toArray_toList] at hcalls
 refine hcalls.mono fun en w'' ⟨q1,q2⟩=>?_
 subst q2
 exact ⟨q1,t1.os,t1.tape,t1.output,t1.size,fun k hk=>r1.keep k hk⟩
end
end
end Go.Proofs.Xx
namespace Go.Proofs.Xx
open Go Go.RowKit Go.WideShapes Go.ChangeShapes
set_option linter.unusedSimpArgs false
set_option linter.unusedVariables false
section
variable {H:Type} {enc:TypeId×Value→H} {P:Program}
theorem trodAll_length {W:World} {base:Nat} {sp:Nat→Bool} {held:Bool}:∀ {ts:List TypeId} {vs:List Value} {ds:List (DataW H)} {ps:List MemPlace},DataW.TrodAll enc P W base sp held ts vs ds ps→ds.length=ts.length
 | [],[],[],_,_=>rfl
 | t :: ts,v :: vs,d :: ds,ps,h=>by
  obtain ⟨p,q,_,h2,_⟩:=h
  simp [trodAll_length h2]
 | [],[],_ :: _,_,h=>h.elim
 | [],_ :: _,_,_,h=>h.elim
 | _ :: _,[],_,_,h=>h.elim
 | _ :: _,_ :: _,[],_,h=>h.elim
theorem vP {f:Func} {s:ChangeSpec} {apart fresh handsOn again:Bool} {W W':World} {args:Array Value} {v:Value} {ds gs:List (DataW H)} {before pa pv:List MemPlace}
 (hW:DataW.Whole enc P f.params.toList s.vars apart W args.toList ds gs before)
 (hres:∀ (b:Nat) (sp:Nat→Bool) (hd:Bool),DataW.TrodAll enc P W' b sp hd f.resultTypes.toList (v.resultList f.resultTypes.size) (s.fn H (ds ++ gs)).results [])
 (hargs:∀ sp:Nat→Bool,(∀ p∈before,sp p.block=true)→DataW.TrodAll enc P W' 0 sp true f.params.toList args.toList (s.fn H (ds ++ gs)).args pa)
 (hvars:∀ sp:Nat→Bool,(∀ p∈before,sp p.block=true)→DataW.TrodVars enc P W' sp s.vars (s.fn H (ds ++ gs)).vars pv)
 (hps:before=pa ++ pv) (hb:Below W.heap.size W W')
 (hok:∀ (j:Nat) (t:TypeId) (r:Value),f.resultTypes[j]? = some t→(v.resultList f.resultTypes.size)[j]? = some r→Value.okWide P W' .any 0 t r) :
 s.post enc P f apart fresh handsOn again W args v W':=by
 have hlt:∀ p∈before,p.block<W.heap.size:=fun p hp=>hW.lt p hp
 have hold:∀ p∈before,(fun b=>decide (b<W.heap.size)) p.block=true:=fun p hp=>by simpa using hlt p hp
 refine ⟨ds,gs,before,[],pa,pv,hW,hres _ _ _,hargs _ hold,hvars _ hold,World.keptBut_mono (fun p hp=>⟨hp,?_⟩) (hb.frame (·∈before)),fun _=>?_⟩
 ·rw [hps,List.mem_append] at hp
  exact Or.inr hp
 ·obtain ⟨_,_,_,_,_,hz,hn⟩:=hW
  refine ⟨hok,_,_,([] ++ pa) ++ pv,⟨[] ++ pa,pv,trodAll_append (hargs _ (fun _ _=>rfl)) (hres _ _ _),hvars _ (fun _ _=>rfl),rfl,?_,?_⟩,?_⟩
  ·intro b off hp
   have hin:MemPlace.cell b off∈before:=by rw [hps];simpa using hp
   rw [hb.frozen (hlt _ hin)]
   exact hz b off hin
  ·intro ha
   have:=hn ha
   rw [hps] at this
   simpa using this
  ·intro p hp _
   rw [hps]
   simpa using hp
end
end Go.Proofs.Xx
namespace Go.Proofs.Xx
open Go
set_option linter.unusedSimpArgs false
set_option linter.unusedVariables false
section
variable {P:Program} {h:AH}
theorem pieces {α:Type} {z:Nat} {enc:α→List Value} {good:α→Prop}:∀ (n:Nat) (c:List Value),c.length=n*z→(∀ i,i<n→∃ y,(c.drop (i*z)).take z=enc y∧good y)→∃ l:List α,l.length=n∧c=l.flatMap enc∧∀ y∈l,good y
 | 0,c,hc,_=>⟨[],rfl,by rw [Nat.zero_mul] at hc;rw [List.length_eq_zero_iff.1 hc];rfl,fun y q=>by cases q⟩
 | n+1,c,hc,hk=>by
  rw [Nat.add_mul,Nat.one_mul] at hc
  obtain ⟨y,h1,h2⟩:=hk 0 (by omega)
  obtain ⟨l,l1,l2,l3⟩:=pieces (z:=z) (enc:=enc) (good:=good) n (c.drop z) (by rw [List.length_drop,hc];omega) (fun i hi=>by
   obtain ⟨y,q1,q2⟩:=hk (i+1) (by omega)
   refine ⟨y,?_,q2⟩
   rw [List.drop_drop,← q1,Nat.add_mul,Nat.one_mul,Nat.add_comm z])
  rw [Nat.zero_mul,List.drop_zero] at h1
  refine ⟨y :: l,by simp [l1],?_,fun x q=>?_⟩
  ·rw [List.flatMap_cons,← h1,← l2,List.take_append_drop]
  ·rcases List.mem_cons.1 q with rfl|q
   ·exact h2
   ·exact l3 x q
end
set_option maxRecDepth 100000
structure TabA (h:AH) (t:Tab):Prop where
 rd:RdL h t.ov 1 eI t.opn
 cap:XR t.ov
 name:t.name.length≤maxLen
 opn:t.opn.length≤maxLen
theorem TabA.ext {h h':AH} {t:Tab} (a:TabA h t) (w:WfH h) (x:Ext h h'):TabA h' t:=⟨a.rd.ext w x,a.cap,a.name,a.opn⟩
structure HallA (h:AH) (v:Value) (l:List Tab):Prop where
 rd:RdL h v 7 eT l
 cap:XR v
 len:l.length≤maxLen
 tab:∀ i,i<l.length→TabA h (tb l i)
theorem HallA.ext {h h':AH} {v:Value} {l:List Tab} (a:HallA h v l) (w:WfH h) (x:Ext h h'):HallA h' v l:=⟨a.rd.ext w x,a.cap,a.len,fun i hi=>(a.tab i hi).ext w x⟩
structure wz where
 s:Nat
 a:Nat
 b:Nat
 os:SlV
 opn:List Nat
instance:Inhabited wz:=⟨⟨0,0,0,⟨none,0,0⟩,[]⟩⟩
def eC (c:wz):List Value:=[.int .u8 c.s,.int .u8 c.a,.int .u8 c.b,c.os.val]
abbrev qh9 (c:wz):Value:=.agg (eC c).toArray
structure CodA (h:AH) (c:wz):Prop where
 rd:RdL h c.os.val 1 eU c.opn
 cap:XR c.os.val
 len:c.opn.length≤maxLen
 b1:c.s<256∧c.a<256∧c.b<256
 b2:∀ i,i<c.opn.length→c.opn.getD i default<256
theorem CodA.ext {h h':AH} {c:wz} (a:CodA h c) (w:WfH h) (x:Ext h h'):CodA h' c:=⟨a.rd.ext w x,a.cap,a.len,a.b1,a.b2⟩
abbrev cd (l:List wz) (i:Nat):wz:=l.getD i default
structure CodesA (h:AH) (v:Value) (l:List wz):Prop where
 rd:RdL h v 4 eC l
 cap:XR v
 len:l.length≤maxLen
 cod:∀ i,i<l.length→CodA h (cd l i)
theorem CodesA.ext {h h':AH} {v:Value} {l:List wz} (a:CodesA h v l) (w:WfH h) (x:Ext h h'):CodesA h' v l:=⟨a.rd.ext w x,a.cap,a.len,fun i hi=>(a.cod i hi).ext w x⟩
def qhL (l:List Int):Prop:=∀ i,0<i→i<l.length→l.getD (i - 1) default<l.getD i default
def qia (l m:List Int):Prop:=∀ i,i<l.length→∃ j,j<m.length∧l.getD i default=m.getD j default
set_option maxHeartbeats 4000000
def nx (a k:Int):Int:=if k+1=a then 0 else k+1
def Jf (a b k:Int):Int:=if k<a then k else if 0<b∧k=a then a else if k - a - (if 0<b then 1 else 0)<a then a - 1 - (k - a - (if 0<b then 1 else 0)) else -1
def Z7 (a b k:Int):Int:=if k<a then 0 else if 0<b∧k=a then 1 else if k - a - (if 0<b then 1 else 0)<a then 2 else 1
structure TabS (t:Tab):Prop where
 b:V6 t
 pos:0<qC t
theorem TabS.of (t:Tab) (h:0<qC t):TabS t:=by
 refine ⟨?_,h⟩
 unfold qC jh QB Zn Zl Ji at h
 unfold V6
 repeat' split at h
 all_goals omega
theorem TabS.s1 {t:Tab} (h:TabS t) (q:t.shape=1):1≤t.A∧t.A≤24∧t.B=0∧qC t=t.A:=by
 have:=h.pos
 unfold qC jh QB at this ⊢
 rw [if_pos q] at this ⊢
 split at this<;>simp_all
theorem TabS.s2 {t:Tab} (h:TabS t) (q:t.shape=2):1≤t.A∧t.A≤11∧0≤t.B∧t.B≤2∧qC t=2*t.A+t.B:=by
 have:=h.pos
 unfold qC jh Zn at this ⊢
 rw [if_neg (by omega),if_pos q] at this ⊢
 split at this<;>simp_all
theorem TabS.s3 {t:Tab} (h:TabS t) (q:t.shape=3):1≤t.A∧t.A≤8∧1≤t.B∧t.B≤8∧qC t=t.A+2*t.B:=by
 have:=h.pos
 unfold qC jh Zl at this ⊢
 rw [if_neg (by omega),if_neg (by omega),if_pos q] at this ⊢
 split at this<;>simp_all
theorem TabS.s4 {t:Tab} (h:TabS t) (q:t.shape=4):1≤t.A∧t.A≤24∧0≤t.B∧t.B≤t.A∧qC t=t.A:=by
 have:=h.pos
 unfold qC jh Ji at this ⊢
 rw [if_neg (by omega),if_neg (by omega),if_neg (by omega),if_pos q] at this ⊢
 split at this<;>simp_all
theorem TabS.shape {t:Tab} (h:TabS t):t.shape=1∨t.shape=2∨t.shape=3∨t.shape=4:=by have:=h.b;unfold V6 at this;omega
theorem qad {a b p q:Int} (h1:1≤a∧a≤11∧0≤b∧b≤2) (hp:0≤p∧p<2*a+b) (hq:0≤q∧q<2*a+b) (hne:p≠q) :
 (¬ (Jf a b p - Jf a b q≠1∧Jf a b q - Jf a b p≠1)∧((Z7 a b p=Z7 a b q∧Z7 a b p≠1)∨(Z7 a b p≠Z7 a b q∧(Z7 a b p=1∨Z7 a b q=1))))↔ku a b (min p q) (max p q):=by
 unfold Jf Z7 ku
 rcases Int.lt_trichotomy p q with h|h|h
 ·rw [Int.min_eq_left (by omega),Int.max_eq_right (by omega)]
  repeat' split
  all_goals omega
 ·exact absurd h hne
 ·rw [Int.min_eq_right (by omega),Int.max_eq_left (by omega)]
  repeat' split
  all_goals omega
theorem qae {a b p q:Int} (h1:1≤a∧a≤11∧0≤b∧b≤2) (hp:0≤p∧p<2*a+b) (hq:0≤q∧q<2*a+b) (hne:p≠q) :
 ((Jf a b p=Jf a b q∧Z7 a b p≠1∧Z7 a b q≠1)∨(Z7 a b p=1∧Z7 a b q=1))↔kw a b (min p q) (max p q):=by
 unfold Jf Z7 kw
 rcases Int.lt_trichotomy p q with h|h|h
 ·rw [Int.min_eq_left (by omega),Int.max_eq_right (by omega)]
  repeat' split
  all_goals omega
 ·exact absurd h hne
 ·rw [Int.min_eq_right (by omega),Int.max_eq_left (by omega)]
  repeat' split
  all_goals omega
theorem KA {h0:AH} (w:WfH h0) (t:Tab) (k:Int) (hk:0≤k∧k≤1000):Fn Tryz.prog Xh 207 [jg t,.int .i64 k] h0 (fun v h'=>v = .int .i64 (nx t.A k)∧Hs h0 h' []):=by
 have S:=Hs.start w
 refine qF rfl Tryz.func207 rfl rfl ?_
 all_goals (repeat' (first|refine qi ?_|refine ql rfl ?_|refine qo ?_|(refine qf 0 ?_;(refine bx S ?_;clear S;intro b h S);refine mv ?_;refine qg ?_)|(refine qf 1 ?_;refine mv ?_;refine ad ?_;refine vl ?_;refine lB S rfl rfl ?_;(first|(refine cS ?_ ?_<;>intro hc))<;>(refine qg ?_))|(refine qf 2 ?_;refine mv ?_;refine qg ?_)|(refine qf 3 ?_;refine mv ?_;refine ad ?_;refine mv ?_;refine qg ?_)))
 all_goals (refine qx ⟨_,rfl,?_⟩)
 ·exact ⟨by unfold nx;rw [if_pos hc];rfl,S.drop⟩
 ·exact ⟨by unfold nx;rw [if_neg hc];rfl,S.drop⟩
theorem ZT {h0:AH} (w:WfH h0) (t:Tab) (k:Int) (hb:V6 t) (hk:0≤k∧k≤1000):Fn Tryz.prog Xh 170 [jg t,.int .i64 k] h0 (fun v h'=>v = .agg #[.int .i64 (Jf t.A t.B k),.int .i64 (Z7 t.A t.B k)]∧Hs h0 h' []):=by
 have S:=Hs.start w
 obtain ⟨-,-,ha1,ha2,hb1,hb2⟩:=hb
 refine qF rfl Tryz.func170 rfl rfl ?_
 all_goals (repeat' (first|refine qi ?_|refine ql rfl ?_|refine qo ?_|(refine qf 0 ?_;(refine bx S ?_;clear S;intro b h S);(refine al S ?_;clear S;intro b h S);refine qg ?_)|(refine qf 1 ?_;refine mv ?_;refine vl ?_;refine lB S rfl rfl ?_;(first|(refine cS ?_ ?_<;>intro hc))<;>(refine qg ?_))|(refine qf 2 ?_;refine mv ?_;refine vl ?_;(first|(refine sB S rfl rfl ?_;clear S;intro h S));refine qg ?_)|(refine qf 3 ?_;refine mv ?_;refine vl ?_;refine lB S rfl rfl ?_;refine sb ?_;refine mv ?_;refine qg ?_)|(refine qf 4 ?_;refine vl ?_;refine lB S rfl rfl ?_;(first|(refine cS ?_ ?_<;>intro hc))<;>(refine qg ?_))|(refine qf 5 ?_;refine mv ?_;(first|(refine cS ?_ ?_<;>intro hc))<;>(refine qg ?_))|(refine qf 6 ?_;refine vl ?_;refine lB S rfl rfl ?_;refine vl ?_;(first|(refine sB S rfl rfl ?_;clear S;intro h S));refine qg ?_)|(refine qf 7 ?_;refine mv ?_;refine sb ?_;refine mv ?_;refine qg ?_)|(refine qf 8 ?_;refine mv ?_;refine vl ?_;refine lB S rfl rfl ?_;(first|(refine cS ?_ ?_<;>intro hc))<;>(refine qg ?_))|(refine qf 9 ?_;refine vl ?_;refine lB S rfl rfl ?_;refine sb ?_;refine mv ?_;refine sb ?_;refine vl ?_;(first|(refine sB S rfl rfl ?_;clear S;intro h S));refine qg ?_)|(refine qf 10 ?_;refine vl ?_;(first|(refine sB S rfl rfl ?_;clear S;intro h S));refine qg ?_)))
 all_goals (refine qx ⟨_,zK S rfl (by first|exact .here) (by exact rfl) (by exact rfl),?_⟩)
 all_goals (refine ⟨?_,S.drop⟩;unfold Jf Z7)
 all_goals (repeat' split)
 all_goals (first|(exfalso;omega)|rfl|(simp only [Int.sub_zero];rfl))
theorem qep {h0:AH} (w:WfH h0) (t:Tab) (k:Int) (hb:V6 t) (hk:0<k∧k<t.A):Fn Tryz.prog Xh 208 [jg t,.int .i64 k] h0 (fun v h'=>BoolIs v (t.B≠0∧t.B ∣ k)∧Hs h0 h' []):=by
 have S:=Hs.start w
 obtain ⟨-,-,ha1,ha2,hb1,hb2⟩:=hb
 refine qF rfl Tryz.func208 rfl rfl ?_
 all_goals (repeat' (first|refine qi ?_|refine ql rfl ?_|refine qo ?_|refine qm ?_|(refine qf 0 ?_;(refine bx S ?_;clear S;intro b h S);refine mv ?_;refine qg ?_)|(refine qf 1 ?_;refine vl ?_;refine lB S rfl rfl ?_;(first|(refine cS ?_ ?_<;>intro hc))<;>(refine qg ?_))|(refine qf 2 ?_;refine mv ?_;refine qg ?_)|(refine qf 3 ?_;refine vl ?_;refine lB S rfl rfl ?_;refine mv ?_;refine qg ?_)))
 ·refine qx ⟨_,rfl,?_⟩
  exact ⟨.inr ⟨rfl,fun q=>q.1 hc⟩,S.drop⟩
 ·refine qE (σ:=Int) (fun at_ h'=>Hs h0 h' [.blk b (eT t) 25]∧0<at_∧at_≤200∧t.B ∣ at_∧∀ m,0<m→m<at_→t.B ∣ m→m≠k) (fun at_=>(t.A - at_).toNat) (fun at_=>[(1,.int .i64 k),(2,.pointer (some ⟨b,0,none⟩)),(5,.int .i64 at_)]) t.B (by repeat (first|exact Ks.le_nil _|refine Ks.qh rfl ?_)) ?_ ?_
  ·refine ⟨S,by omega,by omega,Int.dvd_refl _,fun m h1 h2 h3=>?_⟩
   have:=Int.le_of_dvd h1 h3
   omega
  clear S
  rintro at_ h ⟨S,h1,h2,h3,h4⟩
  all_goals (repeat' (first|refine qi ?_|refine ql rfl ?_|refine qo ?_|refine qA ?_|refine qm ?_|(refine qf 4 ?_;refine mv ?_;refine vl ?_;refine lB S rfl rfl ?_;(first|(refine cS ?_ ?_<;>intro hc))<;>(refine qg ?_))|(refine qf 5 ?_;refine mv ?_;refine vl ?_;refine lB S rfl rfl ?_;refine ad ?_;refine mv ?_;refine qg ?_)|(refine qf 6 ?_;refine mv ?_;refine mv ?_;(first|(refine cS ?_ ?_<;>intro hc))<;>(refine qg ?_))|(refine qf 7 ?_;refine mv ?_;refine qg ?_)|(refine qf 8 ?_;refine mv ?_;refine qg ?_)))
  ·refine qx ⟨_,rfl,?_⟩
   exact ⟨.inl ⟨rfl,by omega,by rw [← hc];exact h3⟩,S.drop⟩
  ·refine ⟨at_+t.B,?_,?_,(by repeat (first|exact Ks.le_nil _|refine Ks.qh rfl ?_))⟩
   ·show (t.A - (at_+t.B)).toNat<(t.A - at_).toNat;omega
   ·refine ⟨S,by omega,by omega,Int.dvd_add h3 (Int.dvd_refl _),fun m g1 g2 g3=>?_⟩
    rcases Int.lt_trichotomy m at_ with q|q|q
    ·exact h4 m g1 q g3
    ·rw [q];assumption
    ·have:=Int.le_of_dvd (show 0<m - at_ by omega) (Int.dvd_sub g3 h3)
     omega
  ·refine qx ⟨_,rfl,?_⟩
   refine ⟨.inr ⟨rfl,fun q=>?_⟩,S.drop⟩
   exact h4 k hk.1 (by omega) q.2 rfl
theorem jM (t:Tab) (p q:Int):zk t p q↔zk t q p:=by
 unfold zk
 rw [Int.min_comm,Int.max_comm]
 exact ⟨fun h=>⟨fun e=>h.1 e.symm,h.2⟩,fun h=>⟨fun e=>h.1 e.symm,h.2⟩⟩
theorem QV (t:Tab) (p q:Int):zt t p q↔zt t q p:=by
 unfold zt
 rw [Int.min_comm,Int.max_comm]
 exact ⟨fun h=>⟨fun e=>h.1 e.symm,h.2⟩,fun h=>⟨fun e=>h.1 e.symm,h.2⟩⟩
section
variable {t:Tab} {p q:Int}
theorem qdb (hs:TabS t) (h:t.shape=1) (hp:0≤p∧p<qC t) (hq:0≤q∧q<qC t) (hne:p≠q):zk t p q↔nx t.A p=q∨nx t.A q=p:=by
 have k:=hs.s1 h
 have e:zk t p q↔xO t.A t.B (min p q) (max p q):=by
  unfold zk
  constructor
  ·rintro ⟨-,⟨-,g⟩|⟨g,-⟩|⟨g,-⟩|⟨g,-⟩⟩
   ·exact g
   all_goals omega
  ·exact fun g=>⟨hne,.inl ⟨h,g⟩⟩
 rw [e]
 unfold xO nx
 rcases Int.lt_trichotomy p q with g|g|g
 ·rw [Int.min_eq_left (by omega),Int.max_eq_right (by omega)]
  repeat' split
  all_goals omega
 ·exact absurd g hne
 ·rw [Int.min_eq_right (by omega),Int.max_eq_left (by omega)]
  repeat' split
  all_goals omega
theorem qda (h:t.shape=2) (hne:p≠q):zk t p q↔ku t.A t.B (min p q) (max p q):=by
 unfold zk
 constructor
 ·rintro ⟨-,⟨g,-⟩|⟨-,g⟩|⟨g,-⟩|⟨g,-⟩⟩
  ·omega
  ·exact g
  all_goals omega
 ·exact fun g=>⟨hne,.inr (.inl ⟨h,g⟩)⟩
theorem VW (h:t.shape=3) (hne:p≠q):zk t p q↔p+1=q∨q+1=p:=by
 unfold zk qbF
 constructor
 ·rintro ⟨-,⟨g,-⟩|⟨g,-⟩|⟨-,g⟩|⟨g,-⟩⟩<;>omega
 ·exact fun g=>⟨hne,.inr (.inr (.inl ⟨h,by omega⟩))⟩
theorem kT (h:t.shape=4) (hlt:p<q):zk t p q↔p+1=q∧¬ (t.B≠0∧t.B ∣ q):=by
 unfold zk rowB
 rw [Int.min_eq_left (by omega),Int.max_eq_right (by omega)]
 constructor
 ·rintro ⟨-,⟨g,-⟩|⟨g,-⟩|⟨g,-⟩|⟨-,g1,g2⟩⟩
  ·omega
  ·omega
  ·omega
  ·exact ⟨by omega,fun k=>g2.elim k.1 fun g=>g (Int.emod_eq_zero_of_dvd k.2)⟩
 ·refine fun g=>⟨by omega,.inr (.inr (.inr ⟨h,by omega,?_⟩))⟩
  by_cases k:t.B=0
  ·exact .inl k
  ·exact .inr fun k2=>g.2 ⟨k,Int.dvd_of_emod_eq_zero k2⟩
theorem kU (hne:p≠q) (h:t.shape=1):zt t p q↔VD t.A t.B (min p q) (max p q):=by
 unfold zt
 constructor
 ·rintro ⟨-,⟨-,g⟩|⟨g,-⟩|⟨g,-⟩⟩
  ·exact g
  all_goals omega
 ·exact fun g=>⟨hne,.inl ⟨h,g⟩⟩
theorem qdg (hne:p≠q) (h:t.shape=2):zt t p q↔kw t.A t.B (min p q) (max p q):=by
 unfold zt
 constructor
 ·rintro ⟨-,⟨g,-⟩|⟨-,g⟩|⟨g,-⟩⟩
  ·omega
  ·exact g
  ·omega
 ·exact fun g=>⟨hne,.inr (.inl ⟨h,g⟩)⟩
theorem qdf (hne:p≠q) (h:t.shape=3):zt t p q↔min p q<t.B∧p+q=t.A+2*t.B - 1:=by
 unfold zt qbG
 constructor
 ·rintro ⟨-,⟨g,-⟩|⟨g,-⟩|⟨-,g⟩⟩<;>omega
 ·exact fun g=>⟨hne,.inr (.inr ⟨h,by omega⟩)⟩
theorem qde (h:t.shape=4):¬ zt t p q:=by
 unfold zt
 rintro ⟨-,⟨g,-⟩|⟨g,-⟩|⟨g,-⟩⟩<;>omega
end
theorem Vr {h0:AH} (w:WfH h0) (t:Tab) (p q:Int) (hs:TabS t) (hp:0≤p∧p<qC t) (hq:0≤q∧q<qC t)
 (hrec:∀ h,WfH h→q<p→Fn Tryz.prog Xh 172 [jg t,.int .i64 q,.int .i64 p] h (fun v h'=>BoolIs v (zk t q p)∧Hs h h' [])) :
 Fn Tryz.prog Xh 172 [jg t,.int .i64 p,.int .i64 q] h0 (fun v h'=>BoolIs v (zk t p q)∧Hs h0 h' []):=by
 have S:=Hs.start w
 have hsz:=qK t
 have hB:=hs.b
 have hb:=hs.b
 obtain ⟨-,-,ha1,ha2,hb1,hb2⟩:=hb
 have hsp:=hs.shape
 refine qF rfl Tryz.func172 rfl rfl ?_
 all_goals (repeat' (first|refine qi ?_|refine ql rfl ?_|refine qo ?_|refine qm ?_|(refine qf 0 ?_;(refine bx S ?_;clear S;intro b h S);refine mv ?_;refine qg ?_)|(refine qf 1 ?_;refine mv ?_;refine mv ?_;(first|(refine cS ?_ ?_<;>intro hc))<;>(refine qg ?_))|(refine qf 2 ?_;refine mv ?_;refine qg ?_)|(refine qf 3 ?_;refine vl ?_;refine lB S rfl rfl ?_;refine qg ?_)|(refine qf 4 ?_;(first|(refine cS ?_ ?_<;>intro hc))<;>(refine mv ?_;refine qg ?_))|(refine qf 5 ?_;refine lB S rfl rfl ?_;refine mv ?_)|(refine qf 6 ?_;(first|(refine cS ?_ ?_<;>intro hc))<;>(refine mv ?_;refine qg ?_))|(refine qf 11 ?_;(first|(refine cS ?_ ?_<;>intro hc))<;>(refine mv ?_;refine qg ?_))|(refine qf 12 ?_;refine mv ?_;refine ad ?_;refine mv ?_;(first|(refine cS ?_ ?_<;>intro hc))<;>(refine mv ?_;(first|refine off ?_|refine mv ?_);(first|refine off ?_|(refine ad ?_));(first|refine off ?_|refine mv ?_);(first|refine off ?_|(first|(refine cS ?_ ?_<;>intro hc)))<;>(refine vl ?_;refine mv ?_;refine qg ?_)))|(refine qf 13 ?_;refine mv ?_;refine mv ?_;(first|(refine cS ?_ ?_<;>intro hc))<;>(refine qg ?_))|(refine qf 14 ?_;refine lB S rfl rfl ?_;refine mv ?_;refine mv ?_)|(refine qf 15 ?_;refine mv ?_;refine ad ?_;refine mv ?_;(first|(refine cS ?_ ?_<;>intro hc))<;>(refine mv ?_;(first|refine off ?_|(refine lB S rfl rfl ?_));(first|refine off ?_|refine mv ?_);(first|(refine off ?_;refine off ?_;refine vl ?_;refine mv ?_;refine qg ?_)|skip)))))
 ·refine qx ⟨_,rfl,?_⟩
  exact ⟨.inr ⟨rfl,fun g=>g.1 hc⟩,S.drop⟩
 ·have hsh:=hc
  have hne:p≠q:=by assumption
  have e:=qdb hs hsh hp hq hne
  (refine qw rfl rfl rfl rfl rfl ((KA S.wf t p (by omega)).mono ?_);rintro _ h ⟨rfl,x⟩)<;>(replace S:=S.qy x;clear x;refine mv ?_;(first|(refine cS ?_ ?_<;>intro hc))<;>(refine mv ?_;(first|refine off ?_|(refine lB S rfl rfl ?_));(first|refine off ?_|refine mv ?_);(first|(refine off ?_;refine off ?_;(refine off ?_)<;>(refine vl ?_;refine mv ?_;refine qg ?_))|skip)))
  ·all_goals (repeat' (fail))
   refine qx ⟨_,rfl,?_⟩
   exact ⟨.inl ⟨rfl,e.2 (.inl (by assumption))⟩,S.drop⟩
  ·(refine qw rfl rfl rfl rfl rfl ((KA S.wf t q (by omega)).mono ?_);rintro _ h ⟨rfl,x⟩)<;>(replace S:=S.qy x;clear x;refine mv ?_;(first|(first|(refine cS ?_ ?_<;>intro hc)))<;>(refine vl ?_;refine mv ?_;refine qg ?_))
   all_goals (repeat' (fail))
   all_goals (refine qx ⟨_,rfl,?_⟩)
   ·exact ⟨.inl ⟨rfl,e.2 (.inr (by assumption))⟩,S.drop⟩
   ·exact ⟨.inr ⟨rfl,fun g=>by have:=e.1 g;omega⟩,S.drop⟩
 ·have hsh:=hc
  have hne:p≠q:=by assumption
  have k:=hs.s2 hsh
  have e:=qda hsh hne
  have lb:=qad (a:=t.A) (b:=t.B) (p:=p) (q:=q) (by omega) (by omega) (by omega) hne
  have hP:=fun g=>e.2 (lb.1 g)
  have hN:=fun (g:¬ _) (g2:zk t p q)=>g (lb.2 (e.1 g2))
  have bx1 : -1≤Jf t.A t.B p∧Jf t.A t.B p≤1000:=by unfold Jf;repeat' split<;>omega
  have bx2 : -1≤Jf t.A t.B q∧Jf t.A t.B q≤1000:=by unfold Jf;repeat' split<;>omega
  clear lb e
  refine vg (id:=7) (j1:=6) (j2:=7) (rd:=[(3,(0,1)),(6,(0,2)),(7,(0,2))]) (fun b1 b2=>[some (b),some b1,some b2]) S (HintOk.direct) (HintOk.direct) ?_;clear S;intro b1 b2 h S;refine qj ?_;(first|(refine lB S rfl rfl ?_<;>refine qg ⟨⟨by (first|exact True.intro),rfl⟩,?_⟩));refine qj ?_;(first|(refine mv ?_<;>refine qg ⟨⟨by (first|exact True.intro),rfl⟩,?_⟩))
  ((refine qj ?_;first|refine qw rfl rfl rfl rfl rfl ((ZT S.wf t p hB (by omega)).mono ?_));rintro _ h ⟨rfl,x⟩)<;>((refine qg ⟨⟨True.intro,?_⟩,?_⟩;(focus ((show keepsX _ _ _ _ _;simp only [keepsX];(repeat' (first|exact True.intro|refine And.intro ?_ ?_));all_goals (intro hw;first|exact x.ext.old _ S.bB)))));replace S:=S.qy x;clear x;refine qj ?_;(first|(refine lB S rfl rfl ?_<;>refine qg ⟨⟨by (first|exact Or.inr rfl),rfl⟩,?_⟩));refine qj ?_;(first|(refine mv ?_<;>refine qg ⟨⟨by (first|exact True.intro),rfl⟩,?_⟩)))
  ((refine qj ?_;first|refine qw rfl rfl rfl rfl rfl ((ZT S.wf t q hB (by omega)).mono ?_));rintro _ h ⟨rfl,x⟩)<;>((refine qg ⟨⟨True.intro,?_⟩,?_⟩;(focus ((show keepsX _ _ _ _ _;simp only [keepsX];(repeat' (first|exact True.intro|refine And.intro ?_ ?_));all_goals (intro hw;first|exact x.ext.old _ S.bB)))));replace S:=S.qy x;clear x;refine fl S rfl rfl S.gB ?_;refine fl S rfl rfl S.gB ?_;refine qj ?_;(first|((refine sB S rfl rfl ?_;have S0:=S;clear S;intro h S);refine qg ⟨⟨True.intro,?_⟩,?_⟩;(focus ((show keepsX _ _ _ _ _;simp only [keepsX];(repeat' (first|exact True.intro|refine And.intro ?_ ?_));all_goals (intro hw;first|exact (S.gB).trans (S0.gB).symm|exact absurd hw (by decide +kernel)))));clear S0));refine qj ?_;(first|((refine sB S rfl rfl ?_;have S0:=S;clear S;intro h S);refine qg ⟨⟨True.intro,?_⟩,?_⟩;(focus ((show keepsX _ _ _ _ _;simp only [keepsX];(repeat' (first|exact True.intro|refine And.intro ?_ ?_));all_goals (intro hw;first|exact (S.gB).trans (S0.gB).symm|exact absurd hw (by decide +kernel)))));clear S0));refine jd ?_)
  generalize hx1:Jf t.A t.B p=x1 at *
  generalize hx2:Jf t.A t.B q=x2 at *
  generalize hy1:Z7 t.A t.B p=y1 at *
  generalize hy2:Z7 t.A t.B q=y2 at *
  all_goals (repeat' (first|refine qi ?_|refine ql rfl ?_|refine qo ?_|(refine qf 8 ?_;refine vl ?_;refine lB S rfl rfl ?_;refine vl ?_;refine lB S rfl rfl ?_;refine sb ?_;(first|(refine cS ?_ ?_<;>intro hc))<;>(refine mv ?_;(first|refine off ?_|(refine vl ?_));(first|refine off ?_|(refine lB S rfl rfl ?_));(first|refine off ?_|(refine vl ?_));(first|refine off ?_|(refine lB S rfl rfl ?_));(first|refine off ?_|(refine sb ?_));(first|refine off ?_|(first|(refine cS ?_ ?_<;>intro hc)))<;>(refine vl ?_;refine qg ?_)))|(refine qf 9 ?_;refine mv ?_;refine qg ?_)|(refine qf 10 ?_;refine vl ?_;refine lB S rfl rfl ?_;refine vl ?_;refine lB S rfl rfl ?_;(first|(refine cS ?_ ?_<;>intro hc))<;>(refine mv ?_;(first|refine off ?_|(refine vl ?_));(first|refine off ?_|(refine lB S rfl rfl ?_));(first|refine off ?_|(first|(refine cS ?_ ?_<;>intro hc)))<;>(refine vl ?_;refine mv ?_;(first|refine off ?_|(refine vl ?_));(first|refine off ?_|(refine lB S rfl rfl ?_));(first|refine off ?_|(refine vl ?_));(first|refine off ?_|(refine lB S rfl rfl ?_));(first|refine off ?_|(first|refine cT ?_|refine cF ?_))<;>((first|refine off ?_|refine mv ?_);(first|refine off ?_|(refine vl ?_));(first|refine off ?_|(refine lB S rfl rfl ?_));(first|refine off ?_|(first|(refine cS ?_ ?_<;>intro hc)))<;>((first|refine off ?_|refine mv ?_);(first|refine off ?_|(refine vl ?_));(first|refine off ?_|(refine lB S rfl rfl ?_));(first|refine off ?_|(first|(refine cS ?_ ?_<;>intro hc)))<;>((first|refine off ?_|refine vl ?_);(first|refine off ?_|refine vl ?_);refine vl ?_;refine mv ?_;refine qg ?_))))))))
  all_goals (refine qx ⟨_,rfl,?_⟩)
  all_goals (refine ⟨?_,S.drop⟩)
  all_goals (first|exact .inl ⟨rfl,hP (by omega)⟩|exact .inr ⟨rfl,hN (by omega)⟩)
 ·have e:=VW (by assumption) (show p≠q by assumption)
  refine qx ⟨_,rfl,?_⟩
  exact ⟨.inl ⟨rfl,e.2 (by omega)⟩,S.drop⟩
 ·have e:=VW (by assumption) (show p≠q by assumption)
  refine qx ⟨_,rfl,?_⟩
  exact ⟨.inl ⟨rfl,e.2 (by omega)⟩,S.drop⟩
 ·have e:=VW (by assumption) (show p≠q by assumption)
  refine qx ⟨_,rfl,?_⟩
  exact ⟨.inr ⟨rfl,fun g=>by have:=e.1 g;omega⟩,S.drop⟩
 ·(refine qw rfl rfl rfl rfl rfl ((hrec _ S.wf (by assumption)).mono ?_);rintro _ h ⟨hv,x⟩)<;>(replace S:=S.qy x;clear x;refine mv ?_;refine qg ?_)
  all_goals (repeat' (fail))
  refine qx ⟨_,rfl,?_⟩
  rcases hv with ⟨rfl,hv⟩|⟨rfl,hv⟩
  ·exact ⟨.inl ⟨rfl,(jM t q p).1 hv⟩,S.drop⟩
  ·exact ⟨.inr ⟨rfl,fun g=>hv ((jM t q p).2 g)⟩,S.drop⟩
 ·have h4:t.shape=4:=by omega
  have k:=hs.s4 h4
  have e:=kT h4 (show p<q by omega)
  (refine qw rfl rfl rfl rfl rfl ((qep S.wf t q hB (by omega)).mono ?_);rintro _ h ⟨⟨rfl,hv⟩|⟨rfl,hv⟩,x⟩)<;>(replace S:=S.qy x;clear x;refine vl ?_;refine vl ?_;refine mv ?_;refine qg ?_)
  all_goals (repeat' (fail))
  all_goals (refine qx ⟨_,rfl,?_⟩)
  ·exact ⟨.inr ⟨rfl,fun g=>(e.1 g).2 hv⟩,S.drop⟩
  ·exact ⟨.inl ⟨rfl,e.2 ⟨by assumption,hv⟩⟩,S.drop⟩
 ·have h4:t.shape=4:=by omega
  have e:=kT h4 (show p<q by omega)
  refine qx ⟨_,rfl,?_⟩
  exact ⟨.inr ⟨rfl,fun g=>by have:=(e.1 g).1;omega⟩,S.drop⟩
theorem Jq {h0:AH} (w:WfH h0) (t:Tab) (p q:Int) (hs:TabS t) (hp:0≤p∧p<qC t) (hq:0≤q∧q<qC t):Fn Tryz.prog Xh 172 [jg t,.int .i64 p,.int .i64 q] h0 (fun v h'=>BoolIs v (zk t p q)∧Hs h0 h' []) :=
 Vr w t p q hs hp hq fun h wh g=>Vr wh t q p hs hq hp fun h2 wh2 g2=>by omega
structure qhG (c:wz) (nm:List UInt8) (t:Tab):Prop where
 name:t.name=nm
 shape:t.shape=1+(c.s:Int) % 4
 ts:TabS t
 opn:Yz (qC t) t.opn
 len:t.opn.length≤24
 xy:t.X=0∧t.Y=0
 round:(c.s:Int) % 4=0→t.A=1+(c.a:Int) % 24∧t.B=0
def qh3 (c:wz) (A B:Int) (n:Nat):Prop:=jh (1+(c.s:Int) % 4) A B=n∧0<n∧n≤24∧((c.s:Int) % 4=0→A=1+(c.a:Int) % 24∧B=0)
abbrev letter (i:Nat):List UInt8:=[UInt8.ofNat (97+i)]
theorem VM {i:Nat} (h:i<16):(UInt8.ofNat (97+i)).toNat=97+i:=by
 rw [UInt8.toNat_ofNat'];omega
theorem qa6 {i j:Nat} (hi:i<16) (hj:j<16) (h:letter i=letter j):i=j:=by
 have:UInt8.ofNat (97+i)=UInt8.ofNat (97+j):=by simpa [letter] using h
 have:=congrArg UInt8.toNat this
 rw [VM hi,VM hj] at this
 omega
structure MadeH (cs:List wz) (l:List Tab):Prop where
 len:l.length=min cs.length 16
 tab:∀ i,i<l.length→∃ t,qhG (cd cs i) (letter i) t∧tb l i={ t with X:=7*(i:Int),Y:=100 - (i:Int) }
def Gy (l:List Tab) (h:AH) (fp:Fp):Prop:=∀ j,j<l.length→RdL h (tb l j).ov 1 eI (tb l j).opn
theorem MadeH.le {cs:List wz} {l:List Tab} (m:MadeH cs l):l.length≤16:=by have:=m.len;omega
theorem MadeH.name {cs:List wz} {l:List Tab} (m:MadeH cs l) {i:Nat} (h:i<l.length):(tb l i).name=letter i:=by
 obtain ⟨t,h1,h2⟩:=m.tab i h
 rw [h2];exact h1.name
theorem GR (t:Tab) (x y:Int):qC { t with X:=x,Y:=y }=qC t:=rfl
theorem MadeH.chk {cs:List wz} {l:List Tab} (m:MadeH cs l) {i:Nat} (h:i<l.length):chk (tb l i)=0:=by
 have hle:=m.le
 obtain ⟨t,h1,h2⟩:=m.tab i h
 rw [h2]
 unfold Xx.chk
 have hn:P7 t.name:=by
  rw [h1.name]
  refine ⟨by simp,by simp,fun j hj=>?_⟩
  obtain rfl:j=0:=by simpa using hj
  show yx (UInt8.ofNat (97+i))
  unfold yx
  rw [VM (by omega)];omega
 have hp:=h1.ts.pos
 rw [if_neg (by simpa using hn),GR,if_neg (by omega),if_neg (by simpa using h1.opn),if_neg]
 simp only [qaB,Classical.not_not]
 omega
theorem MadeH.valid {cs:List wz} {l:List Tab} (m:MadeH cs l):ValidL l:=by
 have hle:=m.le
 refine ⟨hle,fun j hj=>⟨m.chk hj,fun ⟨i,hi,he⟩=>?_⟩⟩
 rw [m.name (by omega),m.name hj] at he
 have:=qa6 (by omega) (by omega) he
 omega
theorem Hs.qbJ {h0 h:AH} {rs:List Rs} {t:Tab} {l:List Tab} (S:Hs h0 h (.rd t.ov 1 eI t.opn :: .any (Gy l) :: rs)):Hs h0 h (.any (Gy (l ++ [t])) :: rs) :=
 S.merge fun f1 f2 k1 k2 h'' hh j hj=>by
  have k2:=k2 h'' fun b hb=>hh b (.inr hb)
  have k1:=k1.local fun b hb=>hh b (.inl hb)
  rw [List.length_append,List.length_cons,List.length_nil] at hj
  rcases Nat.lt_or_ge j l.length with q|q
  ·rw [show tb (l ++ [t]) j=tb l j from jq _ _ q];exact k2 j q
  ·rw [show tb (l ++ [t]) j=t from jC _ _ (by omega)]
   rcases k1 with ⟨e1,e2⟩|⟨bb,o,cap,cc,e,sk,r,e1,e2,-,e3⟩
   ·rw [e1,e2];exact Rd.none_ _ 1
   ·exact .inr ⟨bb,o,cap,cc,e,sk,r,e1,e2,e3⟩
end Go.Proofs.Xx
namespace Go.Proofs.Xx
set_option linter.unusedVariables false
theorem xZ:∀ (n m:Nat) (f:Nat→Nat),(∀ k,k<m→f k<n)→(∀ i j,i<m→j<m→f i=f j→i=j)→m≤n
 | 0,m,f,h1,_=>by
  rcases Nat.eq_zero_or_pos m with h|h
  ·omega
  ·exact absurd (h1 0 h) (Nat.not_lt_zero _)
 | n+1,m,f,h1,h2=>by
  by_cases hk:∃ k,k<m∧f k=n
  ·obtain ⟨k0,hk0,he⟩:=hk
   have:=xZ n (m - 1) (fun k=>if k=k0 then f (m - 1) else f k) (fun k hk=>by
    have key:∀ j,j<m→j≠k0→f j<n:=fun j hj hne=>by
     have:=h1 j hj
     have:f j≠n:=fun q=>hne (h2 j k0 hj hk0 (by omega))
     omega
    split
    ·exact key _ (by omega) (by omega)
    ·exact key _ (by omega) (by assumption)) (fun i j hi hj q=>by
    split at q<;>split at q
    ·omega
    ·have:=h2 _ _ (by omega) (by omega) q;omega
    ·have:=h2 _ _ (by omega) (by omega) q;omega
    ·exact h2 _ _ (by omega) (by omega) q)
   omega
  ·have:=xZ n m f (fun k hk'=>by
    have:=h1 k hk'
    have:f k≠n:=fun q=>hk ⟨k,hk',q⟩
    omega) h2
   omega
section
variable {N:Int→Int→Prop} {n s:Nat}
theorem IsDist.pred {d y:Nat} (h:IsDist N n s (d+1) y):∃ x:Nat,x<n∧IsDist N n s d x∧N x y:=by
 obtain ⟨⟨x,hx,hw,hn⟩,h2⟩:=h
 refine ⟨x,hx,⟨hw,fun e he q=>h2 (e+1) (by omega) ⟨x,hx,q,hn⟩⟩,hn⟩
theorem IsDist.lt {d y:Nat} (hs:s<n) (h:IsDist N n s d y) (hy:y<n):d<n:=by
 have all:∀ (d y:Nat),y<n→IsDist N n s d y→∀ k,k≤d→∃ x,x<n∧IsDist N n s k x:=by
  intro d
  induction d with
  | zero=>intro y hy h k hk;exact ⟨y,hy,by rw [show k=0 by omega];exact h⟩
  | succ d ih =>
   intro y hy h k hk
   rcases Nat.eq_or_lt_of_le hk with q|q
   ·exact ⟨y,hy,by rw [q];exact h⟩
   ·obtain ⟨x,hx,h3,-⟩:=h.pred
    exact ih x hx h3 k (by omega)
 have ch:=all d y hy h
 have:=Classical.axiomOfChoice (r:=fun (k:Nat) (x:Nat)=>k≤d→x<n∧IsDist N n s k x) (fun k=>by
  by_cases hk:k≤d
  ·obtain ⟨x,hx⟩:=ch k hk;exact ⟨x,fun _=>hx⟩
  ·exact ⟨0,fun q=>absurd q hk⟩)
 obtain ⟨f,hf⟩:=this
 have:=xZ n (d+1) f (fun k hk=>(hf k (by omega)).1) (fun i j hi hj q=>by
  have h1:=(hf i (by omega)).2
  have h2:=(hf j (by omega)).2
  rw [q] at h1
  exact h1.unique h2)
 omega
structure Lev (N:Int→Int→Prop) (n s d a b:Nat) (l:List Int):Prop where
 len:l.length=n
 at_:∀ y,y<n→(∃ e:Nat,e≤d∧IsDist N n s e y∧l.getD y default=(e:Int)) ∨
  ((¬ ∃ e,e≤d∧IsDist N n s e y)∧(((∃ x,x<n∧(x<a∨(x=a∧y<b))∧IsDist N n s d x∧N x y)∧l.getD y default=(d:Int)+1)∨((¬ ∃ x,x<n∧(x<a∨(x=a∧y<b))∧IsDist N n s d x∧N x y)∧l.getD y default = -1)))
theorem J4 (l:List Int) (i j:Nat) (v:Int) (h:i<l.length):(l.set i v).getD j default=if j=i then v else l.getD j default:=by
 simp only [List.getD_eq_getElem?_getD,List.getElem?_set]
 by_cases hj:j=i
 ·subst hj;simp [h]
 ·rw [if_neg hj,if_neg (Ne.symm hj)]
theorem Lev.start {l:List Int} (hl:l.length=n) (hs:s<n) (h0:l.getD s default=0) (h1:∀ y,y<n→y≠s→l.getD y default = -1):Lev N n s 0 0 0 l:=by
 refine ⟨hl,fun y hy=>?_⟩
 by_cases q:y=s
 ·subst q
  exact .inl ⟨0,Nat.le_refl _,⟨rfl,fun e he=>absurd he (Nat.not_lt_zero _)⟩,h0⟩
 ·refine .inr ⟨?_,.inr ⟨?_,h1 y hy q⟩⟩
  ·rintro ⟨e,he,h2,-⟩
   obtain rfl:e=0:=by omega
   exact q h2
  ·rintro ⟨x,-,h3,-⟩;omega
theorem Lev.row {d a:Nat} {l:List Int} (L:Lev N n s d a n l):Lev N n s d (a+1) 0 l:=by
 have he:∀ y,y<n→∀ x,(x<a∨(x=a∧y<n))↔(x<a+1∨(x=a+1∧y<0)):=fun y hy x=>by omega
 refine ⟨L.len,fun y hy=>?_⟩
 have:=L.at_ y hy
 simp only [he y hy] at this
 exact this
theorem Lev.level {d:Nat} {l:List Int} (L:Lev N n s d n 0 l):Lev N n s (d+1) 0 0 l:=by
 refine ⟨L.len,fun y hy=>?_⟩
 rcases L.at_ y hy with ⟨e,h1,h2,h3⟩|⟨h1,⟨⟨x,hx,-,h3,h4⟩,h5⟩|⟨h2,h3⟩⟩
 ·exact .inl ⟨e,by omega,h2,h3⟩
 ·refine .inl ⟨d+1,Nat.le_refl _,⟨⟨x,hx,h3.1,h4⟩,fun e he q=>?_⟩,by rw [h5];simp⟩
  obtain ⟨e',q1,q2⟩:=q.least
  exact h1 ⟨e',by omega,q2⟩
 ·refine .inr ⟨?_,.inr ⟨?_,h3⟩⟩
  ·rintro ⟨e,he,q⟩
   rcases Nat.lt_or_ge d e with q1|q1
   ·obtain rfl:e=d+1:=by omega
    obtain ⟨x,hx,q2,q3⟩:=q.pred
    exact h2 ⟨x,hx,.inl hx,q2,q3⟩
   ·exact h1 ⟨e,q1,q⟩
  ·rintro ⟨x,-,h3,-⟩;omega
theorem Lev.is {d a b x:Nat} {l:List Int} (L:Lev N n s d a b l) (hx:x<n):l.getD x default=(d:Int)↔IsDist N n s d x:=by
 rcases L.at_ x hx with ⟨e,h1,h2,h3⟩|⟨h1,⟨-,h5⟩|⟨-,h3⟩⟩
 ·exact ⟨fun q=>by
   rw [h3] at q;have:e=d:=by omega
   rw [← this];exact h2,fun q=>by rw [h3,h2.unique q]⟩
 ·exact ⟨fun q=>by omega,fun q=>absurd ⟨d,Nat.le_refl _,q⟩ h1⟩
 ·exact ⟨fun q=>by omega,fun q=>absurd ⟨d,Nat.le_refl _,q⟩ h1⟩
theorem Lev.keep {d a b:Nat} {l:List Int} (L:Lev N n s d a b l) (ha:a<n) (hb:b<n) (h:¬ (l.getD a default=(d:Int)∧l.getD b default<0∧N a b)):Lev N n s d a (b+1) l:=by
 refine ⟨L.len,fun y hy=>?_⟩
 rcases L.at_ y hy with q|⟨h1,⟨⟨x,hx,h2,h3,h4⟩,h5⟩|⟨h2,h3⟩⟩
 ·exact .inl q
 ·exact .inr ⟨h1,.inl ⟨⟨x,hx,by omega,h3,h4⟩,h5⟩⟩
 ·refine .inr ⟨h1,.inr ⟨?_,h3⟩⟩
  rintro ⟨x,hx,q1,q2,q3⟩
  by_cases q:x=a∧y=b
  ·obtain ⟨rfl,rfl⟩:=q
   exact h ⟨(L.is hx).2 q2,by omega,q3⟩
  ·exact h2 ⟨x,hx,by omega,q2,q3⟩
theorem Lev.put {d a b:Nat} {l:List Int} (L:Lev N n s d a b l) (ha:a<n) (hb:b<n) (h1:l.getD a default=(d:Int)) (h2:l.getD b default<0) (h3:N a b):Lev N n s d a (b+1) (l.set b ((d:Int)+1)):=by
 have hda:=(L.is ha).1 h1
 refine ⟨by rw [List.length_set];exact L.len,fun y hy=>?_⟩
 rw [J4 l b y _ (by rw [L.len];exact hb)]
 rcases L.at_ y hy with ⟨e,g1,g2,g3⟩|⟨g1,g2⟩
 ·by_cases q:y=b
  ·subst q;omega
  ·rw [if_neg q];exact .inl ⟨e,g1,g2,g3⟩
 ·by_cases q:y=b
  ·subst q
   rw [if_pos rfl]
   exact .inr ⟨g1,.inl ⟨⟨a,ha,by omega,hda,h3⟩,rfl⟩⟩
  ·rw [if_neg q]
   rcases g2 with ⟨⟨x,hx,k2,k3,k4⟩,k5⟩|⟨k2,k3⟩
   ·exact .inr ⟨g1,.inl ⟨⟨x,hx,by omega,k3,k4⟩,k5⟩⟩
   ·exact .inr ⟨g1,.inr ⟨fun ⟨x,hx,r1,r2,r3⟩=>k2 ⟨x,hx,by omega,r2,r3⟩,k3⟩⟩
theorem Lev.done {l:List Int} (L:Lev N n s n 0 0 l) (hs:s<n):DistL N n s l:=by
 refine ⟨L.len,fun y hy=>?_⟩
 rcases L.at_ y hy with ⟨e,g1,g2,g3⟩|⟨g1,⟨⟨x,-,k2,-⟩,-⟩|⟨k2,k3⟩⟩
 ·exact .inr ⟨e,g3,g2⟩
 ·omega
 ·refine .inl ⟨k3,fun d q=>?_⟩
  obtain ⟨e,q1,q2⟩:=q.least
  exact g1 ⟨e,Nat.le_of_lt (q2.lt hs hy),q2⟩
end
set_option linter.unusedSimpArgs false
set_option maxRecDepth 100000
set_option maxHeartbeats 4000000
def wrp (a p i:Int):Int:=if p+i<a then p+i else p+i - a
theorem qge {a p i:Int} (hp:0≤p∧p<a) (hi:0≤i∧i<a):nx a (wrp a p i)=wrp a p (i+1):=by
 unfold nx wrp
 repeat' split
 all_goals omega
theorem QF {h0:AH} (w:WfH h0) (t:Tab) (p q:Int) (hs:TabS t) (hp:0≤p∧p<qC t) (hq:0≤q∧q<qC t):Fn Tryz.prog Xh 173 [jg t,.int .i64 p,.int .i64 q] h0 (fun v h'=>BoolIs v (zt t p q)∧Hs h0 h' []):=by
 have S:=Hs.start w
 have hsz:=qK t
 have hB:=hs.b
 have hb:=hs.b
 obtain ⟨-,-,ha1,ha2,hb1,hb2⟩:=hb
 have hsp:=hs.shape
 have ed:t.A.tdiv 2=t.A / 2:=GV ha1
 have em:t.A.tmod 2=t.A % 2:=Int.tmod_eq_emod_of_nonneg ha1
 refine qF rfl Tryz.func173 rfl rfl ?_
 all_goals (repeat' (first|refine qi ?_|refine ql rfl ?_|refine qo ?_|refine qm ?_|(refine qf 0 ?_;(refine bx S ?_;clear S;intro b h S);refine mv ?_;refine qg ?_)|(refine qf 1 ?_;refine mv ?_;refine mv ?_;(first|(refine cS ?_ ?_<;>intro hc))<;>(refine qg ?_))|(refine qf 2 ?_;refine mv ?_;refine qg ?_)|(refine qf 3 ?_;refine vl ?_;refine lB S rfl rfl ?_;refine qg ?_)|(refine qf 4 ?_;(first|(refine cS ?_ ?_<;>intro hc))<;>(refine mv ?_;refine qg ?_))|(refine qf 5 ?_;refine vl ?_;refine lB S rfl rfl ?_;refine rm ?_;(first|(refine cS ?_ ?_<;>intro hc))<;>(refine qg ?_))|(refine qf 6 ?_;refine mv ?_;refine qg ?_)|(refine qf 7 ?_;refine mv ?_;refine qg ?_)|(refine qf 12 ?_;(first|(refine cS ?_ ?_<;>intro hc))<;>(refine mv ?_;refine qg ?_))|(refine qf 15 ?_;(first|(refine cS ?_ ?_<;>intro hc))<;>(refine mv ?_;refine qg ?_))|(refine qf 16 ?_;refine mv ?_;refine qg ?_)|(refine qf 21 ?_;refine mv ?_;refine qg ?_)))
 ·refine qx ⟨_,rfl,?_⟩
  exact ⟨.inr ⟨rfl,fun g=>g.1 hc⟩,S.drop⟩
 ·have e:=kU (show p≠q by assumption) (by assumption)
  refine qx ⟨_,rfl,?_⟩
  exact ⟨.inr ⟨rfl,fun g=>by have:=(e.1 g).1;omega⟩,S.drop⟩
 ·have k:=hs.s1 (by assumption)
  have hne:p≠q:=by assumption
  have e:=kU hne (by assumption)
  have w0:wrp t.A p ((0:Nat):Int)=p:=by unfold wrp;rw [if_pos (by omega)];simp
  refine qE (σ:=Nat) (fun i h'=>Hs h0 h' [.blk b (eT t) 25]∧(i:Int)≤t.A / 2) (fun i=>(t.A / 2 - i).toNat) (fun i=>[(1,.int .i64 (wrp t.A p i)),(2,.int .i64 q),(3,.pointer (some ⟨b,0,none⟩)),(7,.int .i64 i)]) 0 (by repeat (first|exact Ks.le_nil _|refine Ks.qh rfl ?_|refine Ks.zf ?_)) ?_ ?_
  ·refine ⟨S,by omega⟩
  clear S
  rintro i h ⟨S,h1⟩
  have wb:0≤wrp t.A p i∧wrp t.A p i<t.A:=by unfold wrp;split<;>omega
  all_goals (repeat' (first|refine qi ?_|refine ql rfl ?_|refine qo ?_|refine qA ?_|refine qm ?_|(refine qf 8 ?_;refine mv ?_;refine vl ?_;refine lB S rfl rfl ?_;refine qu ?_;(first|(refine cS ?_ ?_<;>intro hc))<;>(refine qg ?_))|(refine qf 10 ?_;refine lB S rfl rfl ?_;refine mv ?_)|(refine qf 11 ?_;refine mv ?_;refine mv ?_;(first|(refine cS ?_ ?_<;>intro hc))<;>(refine mv ?_;refine qg ?_))))
  ·(refine qw rfl rfl rfl rfl rfl ((KA S.wf t (wrp t.A p i) (by omega)).mono ?_);rintro _ h ⟨rfl,x⟩)<;>(replace S:=S.qy x;clear x;refine mv ?_;refine qg ?_)
   rw [qge (by omega) (by omega)]
   all_goals (repeat' (first|(refine qf 9 ?_;refine mv ?_;refine ad ?_;refine mv ?_;refine qg ?_)))
   refine ⟨i+1,?_,?_,(by repeat (first|exact Ks.le_nil _|refine Ks.qh rfl ?_))⟩
   ·show (t.A / 2 - ((i+1:Nat):Int)).toNat<(t.A / 2 - i).toNat;omega
   ·exact ⟨S,by omega⟩
  ·refine qx ⟨_,rfl,?_⟩
   refine ⟨.inl ⟨rfl,e.2 ?_⟩,S.drop⟩
   have hi:(i:Int)=t.A / 2:=by omega
   have hw:wrp t.A p i=q:=by assumption
   unfold VD
   unfold wrp at hw
   rw [hi] at hw
   split at hw<;>omega
  ·refine qx ⟨_,rfl,?_⟩
   refine ⟨.inr ⟨rfl,fun g=>?_⟩,S.drop⟩
   have g:=e.1 g
   have hi:(i:Int)=t.A / 2:=by omega
   have hw:¬ wrp t.A p i=q:=by assumption
   unfold VD at g
   unfold wrp at hw
   rw [hi] at hw
   split at hw<;>omega
 ·have hsh:=hc
  have hne:p≠q:=by assumption
  have k:=hs.s2 hsh
  have e:=qdg hne hsh
  have lb:=qae (a:=t.A) (b:=t.B) (p:=p) (q:=q) (by omega) (by omega) (by omega) hne
  have hP:=fun g=>e.2 (lb.1 g)
  have hN:=fun (g:¬ _) (g2:zt t p q)=>g (lb.2 (e.1 g2))
  clear lb e
  refine vg (id:=13) (j1:=6) (j2:=7) (rd:=[(3,(0,1)),(6,(0,2)),(7,(0,2))]) (fun b1 b2=>[some (b),some b1,some b2]) S (HintOk.direct) (HintOk.direct) ?_;clear S;intro b1 b2 h S;refine qj ?_;(first|(refine lB S rfl rfl ?_<;>refine qg ⟨⟨by (first|exact True.intro),rfl⟩,?_⟩));refine qj ?_;(first|(refine mv ?_<;>refine qg ⟨⟨by (first|exact True.intro),rfl⟩,?_⟩))
  ((refine qj ?_;first|refine qw rfl rfl rfl rfl rfl ((ZT S.wf t p hB (by omega)).mono ?_));rintro _ h ⟨rfl,x⟩)<;>((refine qg ⟨⟨True.intro,?_⟩,?_⟩;(focus ((show keepsX _ _ _ _ _;simp only [keepsX];(repeat' (first|exact True.intro|refine And.intro ?_ ?_));all_goals (intro hw;first|exact x.ext.old _ S.bB)))));replace S:=S.qy x;clear x;refine qj ?_;(first|(refine lB S rfl rfl ?_<;>refine qg ⟨⟨by (first|exact Or.inr rfl),rfl⟩,?_⟩));refine qj ?_;(first|(refine mv ?_<;>refine qg ⟨⟨by (first|exact True.intro),rfl⟩,?_⟩)))
  ((refine qj ?_;first|refine qw rfl rfl rfl rfl rfl ((ZT S.wf t q hB (by omega)).mono ?_));rintro _ h ⟨rfl,x⟩)<;>((refine qg ⟨⟨True.intro,?_⟩,?_⟩;(focus ((show keepsX _ _ _ _ _;simp only [keepsX];(repeat' (first|exact True.intro|refine And.intro ?_ ?_));all_goals (intro hw;first|exact x.ext.old _ S.bB)))));replace S:=S.qy x;clear x;refine fl S rfl rfl S.gB ?_;refine fl S rfl rfl S.gB ?_;refine qj ?_;(first|((refine sB S rfl rfl ?_;have S0:=S;clear S;intro h S);refine qg ⟨⟨True.intro,?_⟩,?_⟩;(focus ((show keepsX _ _ _ _ _;simp only [keepsX];(repeat' (first|exact True.intro|refine And.intro ?_ ?_));all_goals (intro hw;first|exact (S.gB).trans (S0.gB).symm|exact absurd hw (by decide +kernel)))));clear S0));refine qj ?_;(first|((refine sB S rfl rfl ?_;have S0:=S;clear S;intro h S);refine qg ⟨⟨True.intro,?_⟩,?_⟩;(focus ((show keepsX _ _ _ _ _;simp only [keepsX];(repeat' (first|exact True.intro|refine And.intro ?_ ?_));all_goals (intro hw;first|exact (S.gB).trans (S0.gB).symm|exact absurd hw (by decide +kernel)))));clear S0));refine jd ?_)
  generalize hx1:Jf t.A t.B p=x1 at *
  generalize hx2:Jf t.A t.B q=x2 at *
  generalize hy1:Z7 t.A t.B p=y1 at *
  generalize hy2:Z7 t.A t.B q=y2 at *
  all_goals (repeat' (first|refine qi ?_|(refine qf 14 ?_;refine vl ?_;refine lB S rfl rfl ?_;refine vl ?_;refine lB S rfl rfl ?_;(first|(refine cS ?_ ?_<;>intro hc))<;>(refine mv ?_;(first|refine off ?_|(refine vl ?_));(first|refine off ?_|(refine lB S rfl rfl ?_));(first|refine off ?_|(first|(refine cS ?_ ?_<;>intro hc)))<;>(refine vl ?_;refine mv ?_;(first|refine off ?_|(refine vl ?_));(first|refine off ?_|(refine lB S rfl rfl ?_));(first|refine off ?_|(first|(refine cS ?_ ?_<;>intro hc)))<;>(refine vl ?_;refine mv ?_;(first|refine off ?_|(refine vl ?_));(first|refine off ?_|(refine lB S rfl rfl ?_));(first|refine off ?_|(first|refine cT ?_|refine cF ?_|(refine cS ?_ ?_<;>intro hc)))<;>((first|refine off ?_|refine mv ?_);(first|refine off ?_|(refine vl ?_));(first|refine off ?_|(refine lB S rfl rfl ?_));(first|refine off ?_|(first|(refine cS ?_ ?_<;>intro hc)))<;>((first|refine off ?_|refine vl ?_);refine vl ?_;refine mv ?_;refine qg ?_))))))))
  all_goals (refine qx ⟨_,rfl,?_⟩)
  all_goals (refine ⟨?_,S.drop⟩)
  all_goals (first|exact .inl ⟨rfl,hP (by omega)⟩|exact .inr ⟨rfl,hN (by omega)⟩)
 ·have hsh:=hc
  have hne:p≠q:=by assumption
  have k:=hs.s3 hsh
  have e:=qdf hne hsh
  refine qE (σ:=Nat) (fun i h'=>Hs h0 h' [.blk b (eT t) 25]∧(i:Int)≤t.B∧∀ j:Nat,j<i→¬ ((p=j∧q=qC t - 1 - j)∨(q=j∧p=qC t - 1 - j))) (fun i=>(t.B - i).toNat) (fun i=>[(1,.int .i64 p),(2,.int .i64 q),(3,.pointer (some ⟨b,0,none⟩)),(10,.int .i64 i)]) 0 (by repeat (first|exact Ks.le_nil _|refine Ks.qh rfl ?_)) ?_ ?_
  ·exact ⟨S,by omega,fun j hj=>absurd hj (Nat.not_lt_zero _)⟩
  clear S
  rintro i h ⟨S,h1,h2⟩
  have step:¬ ((p=i∧q=qC t - 1 - i)∨(q=i∧p=qC t - 1 - i))→∀ j:Nat,j<i+1→¬ ((p=j∧q=qC t - 1 - j)∨(q=j∧p=qC t - 1 - j)):=fun g j hj=>by
   rcases Nat.lt_or_ge j i with r|r
   ·exact h2 j r
   ·obtain rfl:j=i:=by omega
    exact g
  all_goals (repeat' (first|refine qi ?_|refine ql rfl ?_|refine qo ?_|refine qA ?_|refine qm ?_|(refine qf 17 ?_;refine mv ?_;refine vl ?_;refine lB S rfl rfl ?_;(first|(refine cS ?_ ?_<;>intro hc))<;>(refine qg ?_))|(refine qf 18 ?_;refine mv ?_;refine ad ?_;refine mv ?_;refine qg ?_)|(refine qf 19 ?_;refine mv ?_;refine mv ?_;(first|(refine cS ?_ ?_<;>intro hc))<;>(refine mv ?_;(first|refine off ?_|refine mv ?_);(first|refine off ?_|(refine lB S rfl rfl ?_));(first|(refine off ?_;refine off ?_;refine off ?_;refine off ?_;(refine off ?_)<;>(refine vl ?_;(iterate 3 refine mv ?_);(first|(first|(refine cS ?_ ?_<;>intro hc)))<;>((refine mv ?_);(first|refine off ?_|refine mv ?_);(first|refine off ?_|(refine lB S rfl rfl ?_));(first|(refine off ?_;refine off ?_;refine off ?_;refine off ?_;(refine off ?_)<;>((refine vl ?_);refine vl ?_;refine qg ?_))|skip))))|skip)))|(refine qf 21 ?_;refine mv ?_;refine qg ?_)))
  ·(refine qw rfl rfl rfl rfl rfl ((jc S.wf t).mono ?_);rintro _ h ⟨rfl,x⟩)<;>(replace S:=S.qy x;clear x;(first|(refine sb ?_));refine mv ?_;(first|(refine sb ?_));(first|(first|(refine cS ?_ ?_<;>intro hc)))<;>(refine vl ?_;refine mv ?_;(first|refine off ?_|refine mv ?_);(first|refine off ?_|refine mv ?_);(first|refine off ?_|(refine cF ?_))<;>((first|refine off ?_|refine mv ?_);refine off ?_;refine off ?_;(first|(refine off ?_;refine off ?_;refine off ?_;refine off ?_;(refine off ?_)<;>((first|refine off ?_|refine vl ?_);refine vl ?_;refine qg ?_))))))
   ·all_goals (repeat' (first|refine qi ?_|refine ql rfl ?_|(refine qf 20 ?_;refine mv ?_;refine qg ?_)))
    refine qx ⟨_,rfl,?_⟩
    exact ⟨.inl ⟨rfl,e.2 (by omega)⟩,S.drop⟩
   ·all_goals (repeat' (first|refine ql rfl ?_|refine qo ?_|(refine qf 18 ?_;refine mv ?_;refine ad ?_;refine mv ?_;refine qg ?_)))
    refine ⟨i+1,?_,?_,(by repeat (first|exact Ks.le_nil _|refine Ks.qh rfl ?_))⟩
    ·show (t.B - ((i+1:Nat):Int)).toNat<(t.B - i).toNat;omega
    ·exact ⟨S,by omega,step (by omega)⟩
  ·(refine qw rfl rfl rfl rfl rfl ((jc S.wf t).mono ?_);rintro _ h ⟨rfl,x⟩)<;>(replace S:=S.qy x;clear x;(first|(refine sb ?_));refine mv ?_;(first|(refine sb ?_));(first|(first|(refine cS ?_ ?_<;>intro hc)))<;>((refine vl ?_);refine vl ?_;refine qg ?_))
   ·all_goals (repeat' (first|refine qi ?_|refine ql rfl ?_|(refine qf 20 ?_;refine mv ?_;refine qg ?_)))
    refine qx ⟨_,rfl,?_⟩
    exact ⟨.inl ⟨rfl,e.2 (by omega)⟩,S.drop⟩
   ·all_goals (repeat' (first|refine ql rfl ?_|refine qo ?_|(refine qf 18 ?_;refine mv ?_;refine ad ?_;refine mv ?_;refine qg ?_)))
    refine ⟨i+1,?_,?_,(by repeat (first|exact Ks.le_nil _|refine Ks.qh rfl ?_))⟩
    ·show (t.B - ((i+1:Nat):Int)).toNat<(t.B - i).toNat;omega
    ·exact ⟨S,by omega,step (by omega)⟩
  ·refine ⟨i+1,?_,?_,(by repeat (first|exact Ks.le_nil _|refine Ks.qh rfl ?_))⟩
   ·show (t.B - ((i+1:Nat):Int)).toNat<(t.B - i).toNat;omega
   ·exact ⟨S,by omega,step (by omega)⟩
  ·refine qx ⟨_,rfl,?_⟩
   refine ⟨.inr ⟨rfl,fun g=>?_⟩,S.drop⟩
   have g:=e.1 g
   rcases Int.lt_trichotomy p q with r|r|r
   ·have:=h2 p.toNat (by omega)
    omega
   ·exact hne r
   ·have:=h2 q.toNat (by omega)
    omega
 ·have h4:t.shape=4:=by omega
  refine qx ⟨_,rfl,?_⟩
  exact ⟨.inr ⟨rfl,qde h4⟩,S.drop⟩
theorem wX {h0:AH} (w:WfH h0) (t:Tab) (p q:Int) (hs:TabS t) (hp:0≤p∧p<qC t) (hq:0≤q∧q<qC t):Fn Tryz.prog Xh 132 [jg t,.int .i64 p,.int .i64 q] h0 (fun v h'=>BoolIs v (zu t p q)∧Hs h0 h' []):=by
 have S:=Hs.start w
 refine qF rfl Tryz.func132 rfl rfl ?_
 all_goals (repeat' (first|refine qi ?_|(refine qf 0 ?_;(refine bx S ?_;clear S;intro b h S);refine mv ?_;refine qg ?_)|(refine qf 1 ?_;refine lB S rfl rfl ?_;refine mv ?_;refine mv ?_)))
 (refine qw rfl rfl rfl rfl rfl ((Jq S.wf t p q hs hp hq).mono ?_);rintro _ h ⟨⟨rfl,h1⟩|⟨rfl,h1⟩,x⟩)<;>(replace S:=S.qy x;clear x;refine mv ?_;(first|refine off ?_|(refine lB S rfl rfl ?_));(first|refine off ?_|refine mv ?_);(first|refine off ?_|refine mv ?_);(first|(refine off ?_;refine vl ?_;refine mv ?_;refine qg ?_)|skip))
 ·all_goals (repeat' (fail))
  refine qx ⟨_,rfl,?_⟩
  exact ⟨.inl ⟨rfl,.inl h1⟩,S.drop⟩
 ·(refine qw rfl rfl rfl rfl rfl ((QF S.wf t p q hs hp hq).mono ?_);rintro _ h ⟨⟨rfl,h2⟩|⟨rfl,h2⟩,x⟩)<;>(replace S:=S.qy x;clear x;refine vl ?_;refine mv ?_;refine qg ?_)
  all_goals (repeat' (fail))
  all_goals (refine qx ⟨_,rfl,?_⟩)
  ·exact ⟨.inl ⟨rfl,.inr h2⟩,S.drop⟩
  ·exact ⟨.inr ⟨rfl,fun g=>g.elim h1 h2⟩,S.drop⟩
end Go.Proofs.Xx
