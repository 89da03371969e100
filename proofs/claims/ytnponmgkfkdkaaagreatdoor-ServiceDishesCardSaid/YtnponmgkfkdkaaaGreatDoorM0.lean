/-
  A store of values keyed by numbers,as a binary tree;the abstract memory that the checked run of a program works on.
-/
import Derived.Calls
import GoSem.Dispatch
import Derived.Below
import Derived.Laws.Tables
import Derived.Laws.Cells
import Derived.Laws.NewBlocks
import Derived.Laws.Entries
set_option linter.unusedSectionVars false
set_option linter.unusedSimpArgs false
set_option linter.unusedVariables false
namespace Go.Proofs.Xx
open Go
abbrev zA0:=@Int.toNat_natCast
abbrev zA1:=@Result.andThen_ok
abbrev zA2:=@List.getD_eq_getElem?_getD
abbrev zA3:=@Nat.le_refl
abbrev zA4:=@List.getElem?_eq_getElem
abbrev zA5:=@Sem.run_bind
abbrev zA6:=@Nat.eq_of_beq_eq_true
abbrev zA7:=@Nat.lt_or_ge
abbrev zA8:=@Bool.and_eq_true
abbrev zA9:=@List.length_take
abbrev zB0:=@Nat.zero_le
abbrev zB1:=@Sem.run_pure
abbrev zB2:=@List.length_append
abbrev zB3:=@Nat.ble_eq_true_of_le
abbrev zB4:=@List.length_drop
abbrev zB5:=@List.mem_singleton
abbrev zB6:=@Nat.le_of_ble_eq_true
abbrev zB7:=@Nat.not_lt_zero
abbrev zB8:=@List.mem_append
abbrev zB9:=@Array.getElem?_eq_some_iff
abbrev zC0:=@List.nil_append
abbrev zC1:=@Array.getElem?_toList
abbrev zC2:=@Array.length_toList
abbrev zC3:=@List.getElem?_drop
abbrev zC4:=@List.length_cons
abbrev zC5:=@List.length_map
abbrev zC6:=@List.cons_append
abbrev zC7:=@List.getElem?_take
abbrev zC8:=@List.all_eq_true
abbrev zC9:=@List.map_append
abbrev zD0:=@Nat.le_trans
abbrev zD1:=@List.filter_append
abbrev zD2:=@List.pairwise_iff_getElem
abbrev zD3:=@Nat.mul_le_mul_right
abbrev zD4:=@List.take_length
abbrev zD5:=@List.getElem?_eq_some_iff
abbrev zD6:=@List.append_nil
abbrev zD7:=@List.filter_cons
abbrev zD8:=@Bool.false_eq_true
abbrev zD9:=@List.mem_filter
abbrev zE0:=@Nat.add_mul
abbrev zE1:=@Array.getElem?_eq_getElem
abbrev zE2:=@List.mem_range
abbrev zE3:=@Nat.lt_of_lt_of_le
abbrev zE4:=@Nat.min_eq_left
abbrev zE5:=@List.size_toArray
abbrev zE6:=@Nat.lt_trichotomy
abbrev zE7:=@List.mem_cons
abbrev zE8:=@List.length_eq_zero_iff
abbrev zE9:=@List.length_filter_le
abbrev zF0:=@List.getElem?_append
abbrev zF1:=@List.mem_map
abbrev zF2:=@List.append_assoc
abbrev zF3:=@Classical.not_not
abbrev zF4:=@Nat.eq_zero_or_pos
abbrev zF5:=@List.length_set
abbrev zF6:=@List.toList_toArray
abbrev zF7:=@Nat.add_assoc
abbrev zF8:=@List.take_of_length_le
abbrev zF9:=@Bool.and_self
abbrev zG0:=@Nat.lt_succ_self
abbrev zG1:=@Nat.zero_add
abbrev zG2:=@List.flatMap_cons
abbrev zG3:=@Bool.not_eq_true'
abbrev zG4:=@List.nodup_append
abbrev zG5:=@List.getElem?_eq_none
abbrev zG6:=@Nat.sub_self
abbrev zG7:=@List.drop_eq_getElem_cons
abbrev zG8:=@Bool.or_eq_true
abbrev zG9:=@List.mem_flatMap
abbrev zH0:=@List.take_append_drop
abbrev zH1:=@Bool.and_eq_false_iff
abbrev zH2:=@Array.getD_eq_getD_getElem?
abbrev zH3:=@Int.eq_ofNat_of_zero_le
abbrev zH4:=@List.getElem?_cons_succ
abbrev zH5:=@List.pairwise_cons
abbrev zH6:=@Option.getD_some
abbrev zH7:=@List.getElem?_append_left
abbrev zH8:=@List.getElem?_map
inductive Tr (α:Type) where
 | e
 | n (v:Option α) (l r:Tr α)
def Tr.VO {α:Type}:Nat→Tr α→Nat→Option α
 | _,.e,_=>none
 | 0,.n v _ _,_=>v
 | f+1,.n v l r,k =>
  match Nat.beq k 0 with
  | true=>v
  | false =>
   match Nat.beq (k % 2) 1 with
   | true=>Tr.VO f l (k / 2)
   | false=>Tr.VO f r (k / 2 - 1)
def Tr.WL {α:Type}:Nat→Tr α→Nat→α→Tr α
 | 0,.e,_,a=>.n (some a) .e .e
 | 0,.n _ l r,_,a=>.n (some a) l r
 | f+1,.e,k,a =>
  match Nat.beq k 0 with
  | true=>.n (some a) .e .e
  | false =>
   match Nat.beq (k % 2) 1 with
   | true=>.n none (Tr.WL f .e (k / 2) a) .e
   | false=>.n none .e (Tr.WL f .e (k / 2 - 1) a)
 | f+1,.n v l r,k,a =>
  match Nat.beq k 0 with
  | true=>.n (some a) l r
  | false =>
   match Nat.beq (k % 2) 1 with
   | true=>.n v (Tr.WL f l (k / 2) a) r
   | false=>.n v l (Tr.WL f r (k / 2 - 1) a)
def Tr.get {α:Type} (t:Tr α) (k:Nat):Option α:=Tr.VO k t k
def Tr.set {α:Type} (t:Tr α) (k:Nat) (a:α):Tr α:=Tr.WL k t k a
theorem Tr.YK {α:Type} (f k:Nat):Tr.VO f (Tr.e:Tr α) k=none:=by cases f<;>rfl
theorem Tr.kC {α:Type} (t:Tr α):∀ (f g k:Nat),k≤f→k≤g→Tr.VO f t k=Tr.VO g t k:=by
 induction t with
 | e=>intro f g k _ _;rw [Tr.YK,Tr.YK]
 | n v l r ihl ihr =>
  intro f g k hf hg;cases k with
  | zero=>cases f<;>cases g<;>rfl
  | succ k =>
   cases f with
   | zero=>omega
   | succ f =>
    cases g with
    | zero=>omega
    | succ g =>
     simp only [Tr.VO];rw [ihl f g _ (by omega) (by omega),ihr f g _ (by omega) (by omega)]
theorem Tr.qcV {α:Type}:∀ (f:Nat) (t:Tr α) (k j:Nat) (a:α),k≤f→j≤f→Tr.VO f (Tr.WL f t k a) j=if j=k then some a else Tr.VO f t j:=by
 intro f;induction f with
 | zero =>
  intro t k j a hk hj;obtain rfl:k=0:=by omega
  obtain rfl:j=0:=by omega
  cases t<;>rfl
 | succ f ih =>
  intro t k j a hk hj;cases t with
  | e =>
   simp only [Tr.WL];by_cases k0:k=0
   ·subst k0;simp only [Nat.beq_eq_true_eq,Nat.beq];by_cases j0:j=0
    ·subst j0;rfl
    ·have hj0:Nat.beq j 0=false:=by cases j with|zero=>exact absurd rfl j0|succ j=>rfl
     simp only [Tr.VO,hj0,if_neg j0];split<;>simp [Tr.YK]
   ·have hk0:Nat.beq k 0=false:=by cases k with|zero=>exact absurd rfl k0|succ j=>rfl
    simp only [hk0];by_cases j0:j=0
    ·subst j0;have hne:¬ 0=k:=by omega
     rw [if_neg hne];split<;>rfl
    ·have hj0:Nat.beq j 0=false:=by cases j with|zero=>exact absurd rfl j0|succ j=>rfl
     by_cases kp:k % 2=1<;>by_cases jp:j % 2=1 <;>
      simp only [show Nat.beq (k % 2) 1=decide (k % 2=1) from by rw [Bool.eq_iff_iff];simp,show Nat.beq (j % 2) 1=decide (j % 2=1) from by rw [Bool.eq_iff_iff];simp,kp,jp,decide_true,decide_false,Tr.VO,hj0,Tr.YK]
     ·rw [ih .e _ _ _ (by omega) (by omega),Tr.YK];congr 1;rw [eq_iff_iff];omega
     ·rw [if_neg (by omega)]
     ·rw [if_neg (by omega)]
     ·rw [ih .e _ _ _ (by omega) (by omega),Tr.YK];congr 1;rw [eq_iff_iff];omega
  | n v l r =>
   simp only [Tr.WL];by_cases k0:k=0
   ·subst k0;simp only [Nat.beq];by_cases j0:j=0
    ·subst j0;rfl
    ·have hj0:Nat.beq j 0=false:=by cases j with|zero=>exact absurd rfl j0|succ j=>rfl
     simp only [Tr.VO,hj0,if_neg j0]
   ·have hk0:Nat.beq k 0=false:=by cases k with|zero=>exact absurd rfl k0|succ j=>rfl
    simp only [hk0];by_cases j0:j=0
    ·subst j0;have hne:¬ 0=k:=by omega
     rw [if_neg hne];split<;>rfl
    ·have hj0:Nat.beq j 0=false:=by cases j with|zero=>exact absurd rfl j0|succ j=>rfl
     by_cases kp:k % 2=1<;>by_cases jp:j % 2=1 <;>
      simp only [show Nat.beq (k % 2) 1=decide (k % 2=1) from by rw [Bool.eq_iff_iff];simp,show Nat.beq (j % 2) 1=decide (j % 2=1) from by rw [Bool.eq_iff_iff];simp,kp,jp,decide_true,decide_false,Tr.VO,hj0]
     ·rw [ih l _ _ _ (by omega) (by omega)];congr 1;rw [eq_iff_iff];omega
     ·rw [if_neg (by omega)]
     ·rw [if_neg (by omega)]
     ·rw [ih r _ _ _ (by omega) (by omega)];congr 1;rw [eq_iff_iff];omega
theorem Tr.qcp {α:Type}:∀ (f g:Nat) (t:Tr α) (k:Nat) (a:α),k≤f→k≤g→Tr.WL f t k a=Tr.WL g t k a:=by
 intro f;induction f with
 | zero =>
  intro g t k a hf hg;obtain rfl:k=0:=by omega
  cases g<;>cases t<;>rfl
 | succ f ih =>
  intro g t k a hf hg;cases g with
  | zero =>
   obtain rfl:k=0:=by omega
   cases t<;>rfl
  | succ g =>
   by_cases k0:k=0
   ·subst k0;cases t<;>rfl
   ·cases t with
    | e=>simp only [Tr.WL];rw [ih g .e (k / 2) a (by omega) (by omega),ih g .e (k / 2 - 1) a (by omega) (by omega)]
    | n v l r=>simp only [Tr.WL];rw [ih g l (k / 2) a (by omega) (by omega),ih g r (k / 2 - 1) a (by omega) (by omega)]
theorem Tr.QB {α:Type} (t:Tr α) (k j:Nat) (a:α):(t.set k a).get j=if j=k then some a else t.get j:=by
 unfold Tr.get Tr.set;rw [Tr.kC _ j (max j k) j (zA3 _) (by omega),Tr.qcp k (max j k) t k a (zA3 _) (by omega),
  Tr.qcV _ _ _ _ _ (by omega) (by omega),Tr.kC t j (max j k) j (zA3 _) (by omega)]
theorem Tr.get_set_same {α:Type} (t:Tr α) (k:Nat) (a:α):(t.set k a).get k=some a:=by rw [Tr.QB,if_pos rfl]
theorem Tr.qhv {α:Type} (t:Tr α) {k j:Nat} (a:α) (h:j≠k):(t.set k a).get j=t.get j:=by rw [Tr.QB,if_neg h]
theorem Tr.XL {α:Type} (k:Nat):(Tr.e:Tr α).get k=none:=Tr.YK _ _
end Go.Proofs.Xx
namespace Go.Proofs.Xx
open Go
inductive Qz where
 | cells (c:List Value) (elem:TypeId) (slk:Option Nat) (ro:Bool)
 | loop (state:LoopState) (pending:Option Code) (sz:Nat) (tmps:Tr Value) (params:List Tmp) (assign body:Code)
 | map (es:List (Value×Value×Nat)) (clock:Nat)
 | dead
structure AH where
 tr:Tr Qz
 next:Nat
 low:Nat
def AH.get (h:AH) (b:Nat):Option Qz:=h.tr.get b
def AH.add (h:AH) (o:Qz):AH:={ tr:=h.tr.set h.next o,next:=h.next+1,low:=h.low }
def lowest (a b:Nat):Nat:=match Nat.ble a b with|true=>a|false=>b
def AH.put (h:AH) (b:Nat) (o:Qz):AH:={ tr:=h.tr.set b o,next:=h.next,low:=lowest h.low b }
def jZ:Value→Bool
 | .bool _|.int _ _|.string _|.pointer none|.slice none 0 0|.map none|.nilFunc|.nilIface|.float _ _=>true
 | .func (.func _) first captured=>first.isEmpty && captured.isEmpty
 | _=>false
def QT:Value→Bool
 | .agg cs=>cs.toList.all jZ
 | v=>jZ v
def one? : Value→Bool
 | .agg _|.tuple _=>false
 | _=>true
def splice (c:List Value) (o:Nat) (xs:List Value):List Value:=c.take o ++ (xs ++ c.drop (o+xs.length))
def QF (P:Program) (t:TypeId):Option Bool :=
 match P.underlying t with
 | some (.struct _)|some (.array _ _)=>some true
 | some _=>some false
 | none=>none
def zU (P:Program) (t:TypeId):Option Nat:=match P.info? t with|some i=>some i.size|none=>none
def Zh (h:AH):Value→Option (Nat×Nat×List Value×TypeId×Option Nat×Bool)
 | .pointer (some ⟨b,o,none⟩)=>match h.get b with
  | some (.cells c e s r)=>some (b,o,c,e,s,r)
  | _=>none
 | _=>none
def zq (c:List Value) (o n:Nat):Option (List Value) :=
 let xs:=(c.drop o).take n
 match Nat.beq xs.length n with
 | true=>some xs
 | false=>none
def Jp (P:Program) (t:TypeId) (a:Value) (h:AH):Option Value :=
 match Zh h a with
 | some (_,o,c,_,_,_) =>
  match QF P t with
  | some true=>match zU P t with
   | some n=>match zq c o n with
    | some xs=>some (.agg xs.toArray)
    | none=>none
   | none=>none
  | some false=>c[o]?
  | none=>none
 | none=>none
def putCells (h:AH) (b o:Nat) (c:List Value) (e:TypeId) (s:Option Nat) (xs:List Value):Option AH :=
 match xs.all one? && Nat.ble (o+xs.length) c.length with
 | true=>some (h.put b (.cells (splice c o xs) e s false))
 | false=>none
def Xn (P:Program) (t:TypeId) (a v:Value) (h:AH):Option AH :=
 match Zh h a with
 | some (b,o,c,e,s,false)=>match zU P t with
  | some n=>match Nat.beq v.cells.toList.length n with
   | true=>putCells h b o c e s v.cells.toList
   | false=>none
  | none=>none
 | _=>none
def Yo (P:Program) (t:TypeId):Option Value:=match P.info? t with|some i=>i.zero|none=>none
def Gv (e:TypeId) (c:List Value) (h:AH):Value×AH:=(.pointer (some ⟨h.next,0,none⟩),h.add (.cells c e none false))
def Vl (place:Nat→Option (Nat×Nat)) (c:List Value):List (Nat×Value)→Option (List Value)
 | []=>some c
 | (i,v) :: rest =>
  match place i with
  | none=>none
  | some (off,size) =>
   match Nat.beq v.cells.toList.length size && Nat.ble (off+size) c.length with
   | true=>Vl place (splice c off v.cells.toList) rest
   | false=>none
def WY (P:Program):List Field→Option (List (Nat×Nat))
 | []=>some []
 | f :: fs=>match zU P f.type,WY P fs with
  | some n,some r=>some ((f.offset,n) :: r)
  | _,_=>none
def qbw (P:Program) (t:TypeId) (parts:List (Nat×Value)):Option Value :=
 match Yo P t with
 | some z=>match QT z with
  | true=>match P.underlying t with
   | some (.struct fs)=>match WY P fs.toList with
    | some ps=>match Vl (fun i=>ps[i]?) z.cells.toList parts with
     | some c=>some (.agg c.toArray)
     | none=>none
    | none=>none
   | some (.array _ e)=>match zU P e with
    | some n=>match Vl (fun i=>some (i*n,n)) z.cells.toList parts with
     | some c=>some (.agg c.toArray)
     | none=>none
    | none=>none
   | _=>none
  | false=>none
 | none=>none
def zn (z:List Value):Nat→List Value
 | 0=>[]
 | k+1=>z ++ zn z k
def qV (P:Program) (t:TypeId):Option TypeId:=match P.underlying t with|some (.slice e)=>some e | _=>none
def zg (P:Program) (e:TypeId):Option (List Value) :=
 match P.info? e with
 | some i=>match i.zero with
  | some z=>match QT z && Nat.beq z.cells.toList.length i.size && !Nat.beq i.size 0 with
   | true=>some z.cells.toList
   | false=>none
  | none=>none
 | none=>none
def jw (P:Program) (t:TypeId) (len:Nat) (parts:List (Nat×Value)) (h:AH):Option (Value×AH) :=
 match qV P t with
 | some e=>match zg P e with
  | some z=>match Nat.ble (len*z.length) 16777216 with
   | true=>match Vl (fun i=>some (i*z.length,z.length)) (zn z len) parts with
    | some c=>some (.slice (some ⟨h.next,0,none⟩) len len,h.add (.cells c e none false))
    | none=>none
   | false=>none
  | none=>none
 | none=>none
def QI (P:Program) (t:TypeId):Option Nat:=match P.info? t with|some i=>some i.bytes|none=>none
def QJ (P:Program) (t:TypeId) (len cap:Value) (h:AH):Option (Value×AH) :=
 match len,cap with
 | .int .i64 (.ofNat l),.int .i64 (.ofNat c)=>match qV P t with
  | some e=>match zg P e,QI P e with
   | some z,some by_=>match Nat.ble l c && Nat.ble (c*(by_+1)) 140737488355328 with
    | true=>some (.slice (some ⟨h.next,0,none⟩) l c,h.add (.cells (zn z c) e none false))
    | false=>none
   | _,_=>none
  | none=>none
 | _,_=>none
def qbu (P:Program) (t:TypeId) (x:Value) (f:Nat):Option Value :=
 match x,P.underlying t with
 | .agg cs,some (.struct fs)=>match fs[f]? with
  | some fd=>match QF P fd.type with
   | some true=>match zU P fd.type with
    | some n=>match zq cs.toList fd.offset n with
     | some xs=>some (.agg xs.toArray)
     | none=>none
    | none=>none
   | some false=>cs.toList[fd.offset]?
   | none=>none
  | none=>none
 | _,_=>none
def Xp (P:Program) (t:TypeId) (x:Value) (f:Nat):Option Value :=
 match x,P.underlying t with
 | .pointer (some ⟨b,o,none⟩),some (.struct fs)=>match fs[f]? with
  | some fd=>match zU P fd.type with
   | some (_+1)=>some (.pointer (some ⟨b,o+fd.offset,none⟩))
   | _=>none
  | none=>none
 | _,_=>none
def jB (P:Program) (t:TypeId) (x i:Value):Option Value :=
 match x,i,P.underlying t with
 | .pointer (some ⟨b,o,none⟩),.int _ (.ofNat k),some (.array len e)=>match Nat.blt k len,zU P e with
  | true,some n=>some (.pointer (some ⟨b,o+k*n,none⟩))
  | _,_=>none
 | .slice (some ⟨b,o,none⟩) len _,.int _ (.ofNat k),some (.slice e)=>match Nat.blt k len,zU P e with
  | true,some n=>some (.pointer (some ⟨b,o+k*n,none⟩))
  | _,_=>none
 | _,_,_=>none
def yY (P:Program) (t:TypeId) (x i:Value):Option Value :=
 match x,i,P.underlying t with
 | .string s,.int _ (.ofNat k),some .string=>match s.data.toList[k]? with
  | some b=>some (.int .u8 b.toNat)
  | none=>none
 | .agg cs,.int _ (.ofNat k),some (.array len e)=>match Nat.blt k len,QF P e,zU P e with
  | true,some true,some n=>match zq cs.toList (k*n) n with
   | some xs=>some (.agg xs.toArray)
   | none=>none
  | true,some false,some n=>cs.toList[k*n]?
  | _,_,_=>none
 | _,_,_=>none
def zA (x y:ByteArray):Bool:=x.data.toList == y.data.toList
def cmpInt (op:BinOp) (x y:Int):Option Bool :=
 match op with
 | .eql=>some (x == y)
 | .neq=>some (x != y)
 | .lss=>some (decide (x<y))
 | .leq=>some (decide (x≤y))
 | .gtr=>some (decide (x > y))
 | .geq=>some (decide (x≥y))
 | _=>none
def qkd:Value→Value→Option Bool
 | .bool a,.bool b=>some (a == b)
 | .int k a,.int k' b=>match decide (k=k') with|true=>some (a == b)|false=>none
 | .string a,.string b=>some (zA a b)
 | _,_=>none
def pairT (P:Program) (t:TypeId):Bool :=
 match P.underlying t with
 | some (.struct fs)=>match fs.toList with
  | [f,g]=>match P.underlying f.type,P.underlying g.type,QF P f.type,QF P g.type with
   | some (.int .i64),some (.int .i64),some false,some false=>Nat.beq f.offset 0 && (Nat.beq g.offset 1 && (decide (f.name ≠ "_") && (decide (g.name ≠ "_") && (!P.stoodInHeld t && !P.eqGuardType P.depth t))))
   | _,_,_,_=>false
  | _=>false
 | _=>false
def Wv (P:Program):List Field→Nat→Bool
 | [],_=>true
 | f :: fs,i=>(match QF P f.type with|some false=>true | _=>false) && (Nat.beq f.offset i && (decide (f.name ≠ "_") && Wv P fs (i+1)))
def qbX (P:Program) (t:TypeId):Bool :=
 match P.underlying t with
 | some (.struct fs)=>Wv P fs.toList 0 && (!P.stoodInHeld t && !P.eqGuardType P.depth t)
 | _=>false
def Jj (d:Option TypeDesc) (a b:Value):Option Bool :=
 match d,a,b with
 | some .bool,.bool x,.bool y=>some (x == y)
 | some (.int _),.int k x,.int k' y=>match decide (k=k') with|true=>some (x == y)|false=>none
 | some .string,.string x,.string y=>some (zA x y)
 | _,_,_=>none
def zo (P:Program):List Field→List Value→List Value→Option Bool
 | [],[],[]=>some true
 | f :: fs,a :: r,b :: s=>match Jj (P.underlying f.type) a b,zo P fs r s with
  | some x,some y=>some (x && y)
  | _,_=>none
 | _,_,_=>none
def zN (P:Program) (t:TypeId) (a b:List Value):Option Bool :=
 match P.underlying t,qbX P t with
 | some (.struct fs),true=>zo P fs.toList a b
 | _,_=>none
def QO (P:Program) (op:BinOp) (t:TypeId) (x y:Value):Option Value :=
 match x,y with
 | .int k a,.int k' b =>
  match op with
  | .shl=>match decide (b<0) with|true=>none|false=>some (.int k (k.wrap (a*2 ^ (min b.toNat k.bits))))
  | .shr=>match decide (b<0) with|true=>none|false=>some (.int k (a.fdiv (2 ^ (min b.toNat k.bits))))
  | _=>match decide (k=k') with
   | false=>none
   | true=>match op with
    | .add=>some (.int k (k.wrap (a+b)))
    | .sub=>some (.int k (k.wrap (a - b)))
    | .mul=>some (.int k (k.wrap (a*b)))
    | .quo=>match decide (b=0) with|true=>none|false=>some (.int k (k.wrap (a.tdiv b)))
    | .rem=>match decide (b=0) with|true=>none|false=>some (.int k (a.tmod b))
    | .and=>some (.int k (k.wrap (BitVec.ofInt k.bits a &&& BitVec.ofInt k.bits b).toNat))
    | .or=>some (.int k (k.wrap (BitVec.ofInt k.bits a ||| BitVec.ofInt k.bits b).toNat))
    | .xor=>some (.int k (k.wrap (BitVec.ofInt k.bits a ^^^ BitVec.ofInt k.bits b).toNat))
    | .andNot=>some (.int k (k.wrap (BitVec.ofInt k.bits a &&& ~~~BitVec.ofInt k.bits b).toNat))
    | op=>match cmpInt op a b with|some r=>some (.bool r)|none=>none
 | .string a,.string b =>
  match op with
  | .add=>match Nat.ble (a.data.toList.length+b.data.toList.length) 4611686018427387904 with
   | true=>some (.string ⟨(a.data.toList ++ b.data.toList).toArray⟩)
   | false=>none
  | .eql=>some (.bool (zA a b))
  | .neq=>some (.bool !(zA a b))
  | .lss=>some (.bool (Op.bytesLess a.data.toList b.data.toList))
  | .leq=>some (.bool (Op.bytesLess a.data.toList b.data.toList || zA a b))
  | .gtr=>some (.bool !(Op.bytesLess a.data.toList b.data.toList || zA a b))
  | .geq=>some (.bool !(Op.bytesLess a.data.toList b.data.toList))
  | _=>none
 | .bool a,.bool b=>match P.underlying t,op with
  | some .bool,.eql=>some (.bool (a == b))
  | some .bool,.neq=>some (.bool !(a == b))
  | _,_=>none
 | .slice a _ _,.slice none 0 0=>match P.underlying t,op with
  | some (.slice _),.eql=>some (.bool a.isNone)
  | some (.slice _),.neq=>some (.bool !a.isNone)
  | _,_=>none
 | .pointer a,.pointer none=>match P.underlying t,op with
  | some (.pointer _),.eql=>some (.bool a.isNone)
  | some (.pointer _),.neq=>some (.bool !a.isNone)
  | _,_=>none
 | .pointer (some ⟨b,o,none⟩),.pointer (some ⟨b',o',none⟩)=>match P.underlying t,op with
  | some (.pointer e),.eql=>match Nat.beq b b',zU P e with
   | true,some (_+1)=>some (.bool (Nat.beq o o'))
   | _,_=>none
  | some (.pointer e),.neq=>match Nat.beq b b',zU P e with
   | true,some (_+1)=>some (.bool !(Nat.beq o o'))
   | _,_=>none
  | _,_=>none
 | .agg a,.agg b=>match op,a.toList,b.toList with
  | .eql,[.int .i64 a0,.int .i64 a1],[.int .i64 b0,.int .i64 b1]=>match pairT P t with
   | true=>some (.bool (a0 == b0 && a1 == b1))
   | false=>none
  | .eql,xs,ys=>match zN P t xs ys with
   | some r=>some (.bool r)
   | none=>none
  | .neq,xs,ys=>match zN P t xs ys with
   | some r=>some (.bool !r)
   | none=>none
  | _,_,_=>none
 | .map a,.map none=>match P.underlying t,op with
  | some (.map _ _),.eql=>some (.bool a.isNone)
  | some (.map _ _),.neq=>some (.bool !a.isNone)
  | _,_=>none
 | _,_=>none
def aUn (op:UnOp) (x:Value):Option Value :=
 match op,x with
 | .not,.bool b=>some (.bool !b)
 | .neg,.int k n=>some (.int k (k.wrap (0 - n)))
 | _,_=>none
def jV (P:Program) (src dst:TypeId) (x:Value):Option Value :=
 match P.underlying src,P.underlying dst,x with
 | some (.int _),some (.int k),.int _ n=>some (.int k (k.wrap n))
 | some .string,some .string,.string s=>some (.string s)
 | some (.int _),some .string,.int _ n=>some (.string (Utf8.encode n))
 | _,_,_=>none
def byteOf? : Value→Option UInt8
 | .int .u8 (.ofNat n)=>some (UInt8.ofNat n)
 | _=>none
def bytesOf? : List Value→Option (List UInt8)
 | []=>some []
 | v :: r=>match byteOf? v,bytesOf? r with
  | some b,some s=>some (b :: s)
  | _,_=>none
def jY (P:Program) (src dst:TypeId) (x:Value) (h:AH):Option Value :=
 match P.underlying src,P.underlying dst,x with
 | some (.slice e),some .string,.slice none 0 0=>match P.underlying e with
  | some (.int .u8)=>some (.string ⟨#[]⟩)
  | _=>none
 | some (.slice e),some .string,.slice (some ⟨b,o,none⟩) len _=>match P.underlying e with
  | some (.int .u8)=>match h.get b with
   | some (.cells c _ _ _)=>match zq c o len with
    | some xs=>match bytesOf? xs with
     | some s=>some (.string ⟨s.toArray⟩)
     | none=>none
    | none=>none
   | _=>none
  | _=>none
 | _,_,_=>none
def jA (P:Program) (src dst:TypeId) (x:Value) (h:AH):Option Value :=
 match P.underlying src,P.underlying dst,x with
 | some (.pointer t),some .unsafePointer,.pointer (some ⟨b,o,none⟩)=>match h.get b,zU P t with
  | some (.cells c _ _ _),some (_+1)=>match Nat.blt o c.length with
   | true=>some (.pointer (some ⟨b,o,none⟩))
   | false=>none
  | _,_=>none
 | some .unsafePointer,some (.pointer u),.pointer (some ⟨b,o,none⟩)=>match h.get b,zU P u with
  | some (.cells c e none false),some (_+1)=>match liesAt P P.depth e (c.length / P.cellsOf e) o u 1 with
   | true=>some (.pointer (some ⟨b,o,none⟩))
   | false=>none
  | _,_=>none
 | _,_,_=>none
def zF (x:Option Value) (d:Nat):Option Nat :=
 match x with
 | none=>some d
 | some (.int _ (.ofNat n))=>some n
 | _=>none
def jd (P:Program) (t:TypeId) (x:Value) (lo hi mx:Option Value) (h:AH):Option Value :=
 match P.underlying t,x,mx with
 | some .string,.string s,none=>match zF lo 0,zF hi s.data.toList.length with
  | some l,some r=>match Nat.ble l r && Nat.ble r s.data.toList.length with
   | true=>some (.string ⟨((s.data.toList.drop l).take (r - l)).toArray⟩)
   | false=>none
  | _,_=>none
 | some (.slice e),.slice none 0 0,none=>match zF lo 0,zF hi 0,zU P e with
  | some 0,some 0,some _=>some (.slice none 0 0)
  | _,_,_=>none
 | some (.slice e),.slice (some ⟨b,o,none⟩) len cap,none=>match h.get b,zU P e with
  | some (.cells _ _ slk _),some n=>match zF lo 0,zF hi len with
   | some l,some r=>match Nat.ble l r && Nat.ble r cap with
    | true=>match slk.isNone && Nat.beq l cap with
     | true=>some (.slice (some ⟨b,o,none⟩) (r - l) (cap - l))
     | false=>some (.slice (some ⟨b,o+l*n,none⟩) (r - l) (cap - l))
    | false=>none
   | _,_=>none
  | _,_=>none
 | some (.array m e),.pointer (some ⟨b,o,none⟩),none=>match h.get b,zU P e with
  | some (.cells _ _ none _),some n=>match zF lo 0,zF hi m with
   | some l,some r=>match Nat.ble l r && Nat.ble r m with
    | true=>match Nat.beq l m with
     | true=>some (.slice (some ⟨b,o,none⟩) (r - l) (m - l))
     | false=>some (.slice (some ⟨b,o+l*n,none⟩) (r - l) (m - l))
    | false=>none
   | _,_=>none
  | _,_=>none
 | _,_,_=>none
def xn (P:Program) (t:TypeId) (x:Value) (lo hi mx:Option Value) (h:AH):Option (Value×AH) :=
 match mx,hi with
 | some m,some r=>match P.underlying t,x with
  | some (.slice e),.slice (some ⟨b,o,none⟩) len cap=>match h.get b,zU P e with
   | some (.cells _ _ slk _),some n=>match zF lo 0,zF (some r) len,zF (some m) cap with
    | some l,some r,some m=>match Nat.ble l r && (Nat.ble r m && Nat.ble m cap) with
     | true=>some (.slice (some ⟨h.next,0,none⟩) (r - l) (m - l),{ tr:=h.tr,next:=h.next+1,low:=lowest h.low b })
     | false=>none
    | _,_,_=>none
   | _,_=>none
  | _,_=>none
 | _,_=>none
theorem jU {P:Program} {t:TypeId} {x:Value} {lo hi:Option Value} {h:AH}:xn P t x lo hi none h=none:=rfl
def qbt (P:Program) (t:TypeId) (x:Value):Option Value :=
 match P.underlying t,x with
 | some .string,.string s=>some (.int .i64 s.data.toList.length)
 | some (.slice _),.slice _ n _=>some (.int .i64 n)
 | some (.array n _),_=>some (.int .i64 n)
 | some (.pointer a),_=>match P.underlying a with
  | some (.array n _)=>some (.int .i64 n)
  | _=>none
 | _,_=>none
def lesser:Value→Value→Option Value
 | .int k x,.int k' y=>some (.int k (if y<x then y else x))
 | .string x,.string y=>some (.string (if Op.bytesLess x.data.toList y.data.toList || zA x y then x else y))
 | _,_=>none
def greater:Value→Value→Option Value
 | .int k x,.int k' y=>some (.int k (if y > x then y else x))
 | .string x,.string y=>some (.string (if !(Op.bytesLess x.data.toList y.data.toList) then x else y))
 | _,_=>none
def Vj (f:Value→Value→Option Value):Value→List Value→Option Value
 | x,[]=>some x
 | x,y :: r=>match f x y with|some z=>Vj f z r|none=>none
def Jn (size:Nat) (x:Value) (h:AH):Option (Nat×List Value) :=
 match x with
 | .slice none 0 0=>some (0,[])
 | .slice (some ⟨b,o,none⟩) n _=>match h.get b with
  | some (.cells c _ _ _)=>match zq c o (n*size) with
   | some xs=>some (n,xs)
   | none=>none
  | _=>none
 | .string s=>some (s.data.toList.length,s.data.toList.map fun b=>.int .u8 b.toNat)
 | _=>none
def Qh (P:Program) (types:List TypeId) (s x:Value) (h:AH):Option (Value×AH) :=
 match types with
 | [ts,tx]=>match qV P ts,P.underlying tx with
  | some _,some (.int _)=>none
  | some e,some _=>match zg P e,QI P e with
   | some z,some (by_+1)=>match Jn z.length x h with
    | some (n,new)=>match Nat.ble ((n+1)*(by_+1)) 140737488355328 && (new.all one? && Nat.beq new.length (n*z.length)) with
     | true =>
      match s with
      | .slice none 0 0 =>
       match n with
       | 0=>some (.slice none 0 0,h)
       | _=>some (.slice (some ⟨h.next,0,none⟩) n n,h.add (.cells new e (some z.length) false))
      | .slice (some ⟨b,o,none⟩) len cap =>
       match h.get b with
       | some (.cells c eb slk ro) =>
        match Nat.ble (len+n) cap with
        | true =>
         match n with
         | 0=>some (.slice (some ⟨b,o,none⟩) len cap,h)
         | _=>match ro with
          | true=>none
          | false=>match putCells h b (o+len*z.length) c eb slk new with
           | some h'=>some (.slice (some ⟨b,o,none⟩) (len+n) cap,h')
           | none=>none
        | false =>
         match zq c o (len*z.length),Nat.ble ((len+n)*(by_+1)) 140737488355328 with
         | some old,true =>
          match slk with
          | none=>some (.slice (some ⟨h.next,0,none⟩) (len+n) (len+n),h.add (.cells (old ++ new) e (some z.length) false))
          | some k=>match ro,Nat.beq k z.length && Nat.beq eb e && Nat.ble (o+cap*k) c.length with
           | false,true=>some (.slice (some ⟨h.next,0,none⟩) (len+n) (len+n),(h.put b .dead).add (.cells (old ++ new) e (some z.length) false))
           | _,_=>none
         | _,_=>none
       | _=>none
      | _=>none
     | false=>none
    | none=>none
   | _,_=>none
  | _,_=>none
 | _=>none
def Vf:TypeDesc→Value→Bool
 | .int k,.int k' _=>decide (k=k')
 | .string,.string _=>true
 | _,_=>false
def Vb (P:Program) (t:TypeId) (k:Value):Option (TypeDesc×TypeId) :=
 match P.underlying t with
 | some (.map kt et)=>match P.underlying kt with
  | some kd=>match Vf kd k with
   | true=>some (kd,et)
   | false=>none
  | none=>none
 | _=>none
def Zy (kd:TypeDesc) (k:Value):List (Value×Value×Nat)→Nat→Option (Option (Nat×Value))
 | [],_=>some none
 | e :: es,i=>match Instr.sameNow kd k e.1 with
  | some true=>some (some (i,e.2.1))
  | some false=>Zy kd k es (i+1)
  | none=>none
def Zx (m:Value) (h:AH):Option (List (Value×Value×Nat)) :=
 match m with
 | .map none=>some []
 | .map (some b)=>match h.get b with
  | some (.map es _)=>some es
  | _=>none
 | _=>none
def zeroV (P:Program) (t:TypeId):Option Value :=
 match Yo P t with
 | some z=>match QT z with
  | true=>some z
  | false=>none
 | none=>none
def Qg (P:Program) (t:TypeId) (m k:Value) (ok:Bool) (h:AH):Option Value :=
 match Vb P t k,Zx m h with
 | some (kd,et),some es=>match Zy kd k es 0 with
  | some (some (_,v))=>some (match ok with|true=>.tuple #[v,.bool true]|false=>v)
  | some none=>match zeroV P et with
   | some z=>some (match ok with|true=>.tuple #[z,.bool false]|false=>z)
   | none=>none
  | none=>none
 | _,_=>none
def Qp (P:Program) (t:TypeId) (m k v:Value) (h:AH):Option AH :=
 match Vb P t k,m with
 | some (kd,_),.map (some b)=>match h.get b with
  | some (.map es clock)=>match Zy kd k es 0 with
   | some (some (i,_))=>some (h.put b (.map (es.modify i fun e=>(k,v,e.2.2)) clock))
   | some none=>some (h.put b (.map (es ++ [(k,v,clock)]) (clock+1)))
   | none=>none
  | _=>none
 | _,_=>none
def JV (P:Program) (t:TypeId) (m k:Value) (h:AH):Option (Value×AH) :=
 match Vb P t k,m with
 | some (kd,et),.map (some b)=>match h.get b with
  | some (.map es clock)=>match Zy kd k es 0 with
   | some (some (i,v))=>match es[i]? with
    | some e=>some (.tuple #[v,.int .i64 e.2.2],h.put b (.map (es.modify i fun e=>(k,e.2)) clock))
    | none=>none
   | some none=>match zeroV P et with
    | some z=>some (.tuple #[z,.int .i64 clock],h.put b (.map (es ++ [(k,z,clock)]) (clock+1)))
    | none=>none
   | none=>none
  | _=>none
 | _,_=>none
def PG (P:Program) (t:TypeId) (k:Value):Option (TypeId×TypeId) :=
 match P.underlying t,k with
 | some (.map kt et),.agg x=>match zN P kt x.toList x.toList with
  | some true=>some (kt,et)
  | _=>none
 | _,_=>none
def JA (P:Program) (kt:TypeId) (k:List Value):List (Value×Value×Nat)→Nat→Option (Option (Nat×Value))
 | [],_=>some none
 | e :: es,i=>match e.1 with
  | .agg y=>match zN P kt k y.toList with
   | some true=>some (some (i,e.2.1))
   | some false=>JA P kt k es (i+1)
   | none=>none
  | _=>none
def Qy (P:Program) (t:TypeId) (m k:Value) (ok:Bool) (h:AH):Option Value :=
 match PG P t k,Zx m h with
 | some (kt,et),some es=>match JA P kt k.cells.toList es 0 with
  | some (some (_,v))=>some (match ok with|true=>.tuple #[v,.bool true]|false=>v)
  | some none=>match zeroV P et with
   | some z=>some (match ok with|true=>.tuple #[z,.bool false]|false=>z)
   | none=>none
  | none=>none
 | _,_=>none
def ZZ (P:Program) (t:TypeId) (m k:Value) (h:AH):Option (Value×AH) :=
 match PG P t k,m with
 | some (kt,et),.map (some b)=>match h.get b with
  | some (.map es clock)=>match JA P kt k.cells.toList es 0 with
   | some (some (i,v))=>match es[i]? with
    | some e=>some (.tuple #[v,.int .i64 e.2.2],h.put b (.map (es.modify i fun e=>(k,e.2)) clock))
    | none=>none
   | some none=>match zeroV P et with
    | some z=>some (.tuple #[z,.int .i64 clock],h.put b (.map (es ++ [(k,z,clock)]) (clock+1)))
    | none=>none
   | none=>none
  | _=>none
 | _,_=>none
def orO {α:Type}:Option α→Option α→Option α
 | some x,_=>some x
 | none,y=>y
def Zp (m s v:Value) (h:AH):Option AH :=
 match m,s with
 | .map (some b),.int _ n=>match h.get b with
  | some (.map es clock)=>match es.findIdx? fun e=>decide ((e.2.2:Int)=n) with
   | some i=>some (h.put b (.map (es.modify i fun e=>(e.1,v,e.2.2)) clock))
   | none=>none
  | _=>none
 | _,_=>none
def Vs (h:AH):Value×AH:=(.map (some h.next),h.add (.map [] 0))
def V6 (x:Value) (h:AH):Option AH :=
 match x with
 | .map none=>some h
 | .map (some b)=>match h.get b with
  | some (.map _ clock)=>some (h.put b (.map [] clock))
  | _=>none
 | _=>none
def ve (P:Program) (t:TypeId) (x:Value) (h:AH):Option AH :=
 match P.underlying t,x with
 | some (.slice _),.slice none 0 0=>some h
 | some (.slice e),.slice (some ⟨b,o,none⟩) n _ =>
  match n with
  | 0=>some h
  | _=>match zg P e,h.get b with
   | some z,some (.cells c eb slk false)=>putCells h b o c eb slk (zn z n)
   | _,_=>none
 | some (.map _ _),x=>V6 x h
 | _,_=>none
def YQ (x:Value):Option Value :=
 match x with
 | .slice none 0 0=>some (.pointer none)
 | .slice (some ⟨b,o,none⟩) _ (_+1)=>some (.pointer (some ⟨b,o,none⟩))
 | _=>none
def Jz (P:Program) (types:List TypeId) (p n:Value) (h:AH):Option (Value×AH) :=
 match p,n with
 | .pointer none,.int _ 0=>match types with | _ :: _=>some (.string ⟨#[]⟩,h)|[]=>none
 | .pointer (some ⟨b,o,none⟩),.int _ (.ofNat k) =>
  match types with
  | pt :: _=>match P.underlying pt with
   | some (.pointer e)=>match h.get b,P.underlying e,zU P e with
    | some (.cells c eb slk false),some (.int .u8),some 1 =>
     match Nat.beq eb e && Nat.ble k 4611686018427387904,zq c o k with
     | true,some xs=>match bytesOf? xs with
      | some s=>match k with
       | 0=>some (.string ⟨#[]⟩,h)
       | _=>some (.string ⟨s.toArray⟩,h.put b (.cells c eb slk true))
      | none=>none
     | _,_=>none
    | _,_,_=>none
   | _=>none
  | _=>none
 | _,_=>none
inductive Xz where
 | val (v:Value) (h:AH)
 | skip (h:AH)
 | call (f:FuncId) (args:List Value)
 | yield (l:Nat) (args:List Value)
def zY (t:Tr Value):Operand→Option Value
 | .tmp k=>t.get k
 | .const v=>match QT v with|true=>some v|false=>none
 | .global _=>none
 | .func f=>some (.func (.func f) #[] #[])
def jO (t:Tr Value):List Operand→Option (List Value)
 | []=>some []
 | o :: r=>match zY t o,jO t r with
  | some v,some vs=>some (v :: vs)
  | _,_=>none
def jG (t:Tr Value):List (Nat×Operand)→Option (List (Nat×Value))
 | []=>some []
 | (i,o) :: r=>match zY t o,jG t r with
  | some v,some vs=>some ((i,v) :: vs)
  | _,_=>none
def jM (t:Tr Value):Option Operand→Option (Option Value)
 | none=>some none
 | some o=>match zY t o with|some v=>some (some v)|none=>none
def qU (o:Option Value) (h:AH):Option Xz:=match o with|some v=>some (.val v h)|none=>none
def Qb (o:Option (Value×AH)):Option Xz:=match o with|some (v,h)=>some (.val v h)|none=>none
def qhO (P:Program) (t:TypeId) (x:Value):Option Value :=
 match P.underlying t,x with
 | some (.slice _),.slice none 0 0=>some (.int .i64 0)
 | _,_=>none
def qfd (P:Program) (t:TypeId) (d x:Value) (h:AH):Option (Value×AH) :=
 match qV P t with
 | some e=>match zg P e with
  | some z=>match d,x with
   | .slice (some ⟨b,o,none⟩) len _,.slice (some ⟨b2,o2,none⟩) n2 c2 =>
    match Nat.ble 1 len && (Nat.ble 1 n2 && Nat.ble n2 c2) with
    | true=>match Jn z.length (.slice (some ⟨b2,o2,none⟩) (Nat.min n2 len) c2) h,h.get b with
     | some (_,new),some (.cells c eb slk false)=>match putCells h b o c eb slk new with
      | some h'=>some (.int .i64 ((Nat.min n2 len:Nat):Int),h')
      | none=>none
     | _,_=>none
    | false=>none
   | _,_=>none
  | none=>none
 | none=>none
def jK (P:Program) (b:Builtin) (types:List TypeId) (args:List Value) (h:AH):Option Xz :=
 match b,types,args with
 | .len,ty :: _,x :: _=>qU (qbt P ty x) h
 | .cap,ty :: _,x :: _=>qU (qhO P ty x) h
 | .append,_,[s,x]=>Qb (Qh P types s x h)
 | .copy,ty :: _,[s,x]=>Qb (qfd P ty s x h)
 | .min,_,x :: r=>qU (Vj lesser x r) h
 | .max,_,x :: r=>qU (Vj greater x r) h
 | .clear,ty :: _,x :: _=>match ve P ty x h with|some h'=>some (.val (.tuple #[]) h')|none=>none
 | .unsafeSliceData,_,[x]=>qU (YQ x) h
 | .unsafeString,_,[p,n]=>Qb (Jz P types p n h)
 | _,_,_=>none
def ja (P:Program) (t:Tr Value) (h:AH) (op:Op):Option Xz :=
 match op with
 | .move x|.assign x=>qU (zY t x) h
 | .pick c a b=>match zY t c with
  | some (.bool true)=>qU (zY t a) h
  | some (.bool false)=>qU (zY t b) h
  | _=>none
 | .alloc e=>match Yo P e with
  | some z=>match QT z with
   | true=>some (.val (Gv e z.cells.toList h).1 (Gv e z.cells.toList h).2)
   | false=>none
  | none=>none
 | .box e x=>match zY t x with
  | some v=>some (.val (Gv e v.cells.toList h).1 (Gv e v.cells.toList h).2)
  | none=>none
 | .build ty ps=>match jG t ps.toList with
  | some vs=>qU (qbw P ty vs) h
  | none=>none
 | .buildSlice ty n ps=>match jG t ps.toList with
  | some vs=>Qb (jw P ty n vs h)
  | none=>none
 | .load ty a=>match zY t a with
  | some v=>qU (Jp P ty v h) h
  | none=>none
 | .store ty a x=>match zY t a,zY t x with
  | some p,some v=>match Xn P ty p v h with
   | some h'=>some (.skip h')
   | none=>none
  | _,_=>none
 | .nilCheck x=>match zY t x with
  | some (.pointer (some a))=>some (.val (.pointer (some a)) h)
  | _=>none
 | .binOp op ty x y _=>match zY t x,zY t y with
  | some a,some b=>qU (QO P op ty a b) h
  | _,_=>none
 | .unOp op _ x=>match zY t x with
  | some a=>qU (aUn op a) h
  | none=>none
 | .convert s d x=>match zY t x with
  | some a=>match jV P s d a with
   | some v=>some (.val v h)
   | none=>match jY P s d a h with
    | some v=>some (.val v h)
    | none=>qU (jA P s d a h) h
  | none=>none
 | .makeFunc (.func f) first captured=>match jO t first.toList,jO t captured.toList with
  | some a,some b=>some (.val (.func (.func f) a.toArray b.toArray) h)
  | _,_=>none
 | .makeSlice ty l c=>match zY t l,zY t c with
  | some a,some b=>Qb (QJ P ty a b h)
  | _,_=>none
 | .slice ty x lo hi mx=>match zY t x,jM t lo,jM t hi,jM t mx with
  | some a,some l,some r,some m=>match xn P ty a l r m h with
   | some q=>some (.val q.1 q.2)
   | none=>qU (jd P ty a l r m h) h
  | _,_,_,_=>none
 | .fieldAddr s x f=>match zY t x with
  | some a=>qU (Xp P s a f) h
  | none=>none
 | .field s x f=>match zY t x with
  | some a=>qU (qbu P s a f) h
  | none=>none
 | .indexAddr ty x i=>match zY t x,zY t i with
  | some a,some k=>qU (jB P ty a k) h
  | _,_=>none
 | .index ty x i=>match zY t x,zY t i with
  | some a,some k=>qU (yY P ty a k) h
  | _,_=>none
 | .makeMap _ rs=>match rs with
  | none=>Qb (some (Vs h))
  | some _=>none
 | .lookup ty m k ok=>match zY t m,zY t k with
  | some a,some b=>qU (orO (Qg P ty a b ok h) (Qy P ty a b ok h)) h
  | _,_=>none
 | .mapUpdate ty m k x=>match zY t m,zY t k,zY t x with
  | some a,some b,some c=>match Qp P ty a b c h with
   | some h'=>some (.skip h')
   | none=>none
  | _,_,_=>none
 | .insert ty m k x=>match zY t m,zY t k,zY t x with
  | some a,some b,some c=>match Qp P ty a b c h with
   | some h'=>some (.skip h')
   | none=>none
  | _,_,_=>none
 | .mapEntry ty m k=>match zY t m,zY t k with
  | some a,some b=>Qb (orO (JV P ty a b h) (ZZ P ty a b h))
  | _,_=>none
 | .entryStore _ m s x=>match zY t m,zY t s,zY t x with
  | some a,some b,some c=>match Zp a b c h with
   | some h'=>some (.skip h')
   | none=>none
  | _,_,_=>none
 | .extract x k=>match zY t x with
  | some (.tuple vs)=>qU vs.toList[k]? h
  | _=>none
 | .call c=>match jO t c.args.toList with
  | some args=>match c.callee with
   | .builtin b=>jK P b c.argTypes.toList args h
   | .value f=>match zY t f with
    | some (.func (.func g) first captured)=>some (.call g (first.toList ++ (args ++ captured.toList)))
    | some (.func (.yield l) first captured)=>match first.toList,captured.toList with
     | [],[]=>some (.yield l args)
     | _,_=>none
    | _=>none
   | .invoke _ _=>none
  | none=>none
 | _=>none
inductive AX where
 | norm
 | exit (id:Nat)
 | ret
abbrev Res:=AX×Tr Value×AH
abbrev zI:=Bool→Nat→Code→Tr Value→AH→Option Res
abbrev Extern:=FuncId→List Value→AH→Option (Value×AH)
def XA (sz:Nat) (t:Tr Value) (d:Option Tmp) (v:Value):Option (Tr Value) :=
 match d with
 | none=>some t
 | some k=>match Nat.blt k sz with
  | true=>some (t.set k v)
  | false=>none
def zZ:Nat→List Value→Tr Value→Tr Value
 | _,[],t=>t
 | k,v :: r,t=>zZ (k+1) r (t.set k v)
def Jf (P:Program) (t:Tr Value) (h:AH):ResultVar→Option Value
 | .tmp k=>t.get k
 | .cell a ty=>match t.get a with
  | some p=>Jp P ty p h
  | none=>none
def jr (P:Program) (t:Tr Value) (h:AH):List ResultVar→Option (List Value)
 | []=>some []
 | r :: rs=>match Jf P t h r,jr P t h rs with
  | some v,some vs=>some (v :: vs)
  | _,_=>none
def ji:List Value→Value
 | [v]=>v
 | vs=>.tuple vs.toArray
def Qe (P:Program) (X:Extern) (run:zI) (f:FuncId) (args:List Value) (h:AH):Option (Value×AH) :=
 match X f args h with
 | some r=>some r
 | none=>match P.funcs[f]? with
  | some fn=>match fn.body with
   | some body=>match run false (args.length+(fn.ntmps - args.length)) body (zZ 0 args .e) h with
    | some (.exit _,_,_)=>none
    | some (_,t,h')=>match jr P t h' fn.results.toList with
     | some vs=>some (ji vs,h')
     | none=>none
    | none=>none
   | none=>none
  | none=>none
def Vz:List Tmp→List Value→Tr Value→Option (Tr Value)
 | [],[],t=>some t
 | p :: ps,v :: vs,t=>Vz ps vs (t.set p v)
 | _,_,_=>none
def qhp:AX→Option Code
 | .norm=>none
 | .exit id=>some (.exit id)
 | .ret=>some .ret
def Zq (run:zI) (l:Nat) (args:List Value) (h:AH):Option (Value×AH) :=
 match h.get l with
 | some (.loop .ready none sz tmps params assign body) =>
  match params.all (fun p=>Nat.blt p sz),Vz params args tmps with
  | true,some t0=>match run true sz assign t0 h with
   | some (.norm,t1,h1)=>match h1.get l with
    | some (.loop .ready none sz' tmps' params' assign' body') =>
     match run true sz body t1 (h1.put l (.loop .busy none sz' tmps' params' assign' body')) with
     | some (x,_,h2)=>match h2.get l with
      | some (.loop .busy none sz2 tmps2 params2 assign2 body2) =>
       match x with
       | .norm=>some (.bool true,h2.put l (.loop .ready none sz2 tmps2 params2 assign2 body2))
       | x=>some (.bool false,h2.put l (.loop .done (qhp x) sz2 tmps2 params2 assign2 body2))
      | _=>none
     | none=>none
    | _=>none
   | _=>none
  | _,_=>none
 | _=>none
def qp (ops:Array Oper) (t:Tr Value):Option (Nat×Bool)→Option Bool
 | none=>some true
 | some (j,want)=>match ops[j]? with
  | some o=>match o.dst with
   | some d=>match t.get d with
    | some (.bool b)=>some (b == want)
    | some (.tuple _)=>some false
    | _=>none
   | none=>none
  | none=>none
def yg (P:Program) (X:Extern) (run:zI) (t:Tr Value) (h:AH) (op:Op):Option (Value×AH) :=
 match ja P t h op with
 | some (.val v h')=>some (v,h')
 | some (.skip h')=>some (.tuple #[],h')
 | some (.call f args)=>Qe P X run f args h
 | some (.yield l args)=>Zq run l args h
 | none=>none
def XB (P:Program) (X:Extern) (run:zI) (sz:Nat) (ops:Array Oper):List Oper→Tr Value→AH→Option (Tr Value×AH)
 | [],t,h=>some (t,h)
 | o :: r,t,h=>match qp ops t o.guard with
  | some true=>match yg P X run t h o.op with
   | some (v,h')=>match XA sz t o.dst v with
    | some t'=>XB P X run sz ops r t' h'
    | none=>none
   | none=>none
  | some false=>match XA sz t o.dst (.tuple #[]) with
   | some t'=>XB P X run sz ops r t' h
   | none=>none
  | none=>none
def Wq (op:Op):Bool :=
 match op with
 | .move _|.assign _|.pick ..|.build ..|.load ..|.nilCheck _|.binOp ..|.unOp ..|.convert ..|.makeFunc ..|.fieldAddr ..|.field ..|.indexAddr ..|.index ..|.extract ..|.lookup ..=>false
 | .slice _ _ _ _ m=>m.isSome
 | .call c=>match c.callee with
  | .builtin b=>match b with
   | .len|.cap|.min|.max|.unsafeSliceData=>false
   | _=>true
  | _=>true
 | _=>true
def tmpsOf:Operand→List Tmp
 | .tmp k=>[k]
 | _=>[]
def J6:List Operand→List Tmp
 | []=>[]
 | o :: r=>tmpsOf o ++ J6 r
def JC:List (Nat×Operand)→List Tmp
 | []=>[]
 | (_,o) :: r=>tmpsOf o ++ JC r
def YW:Option Operand→List Tmp
 | none=>[]
 | some o=>tmpsOf o
def Yy (op:Op):List Tmp :=
 match op with
 | .move x|.assign x|.nilCheck x|.load _ x|.unOp _ _ x|.convert _ _ x|.fieldAddr _ x _|.field _ x _|.extract x _|.box _ x=>tmpsOf x
 | .pick c a b=>tmpsOf c ++ (tmpsOf a ++ tmpsOf b)
 | .build _ ps|.buildSlice _ _ ps=>JC ps.toList
 | .store _ a x=>tmpsOf a ++ tmpsOf x
 | .binOp _ _ x y _|.indexAddr _ x y|.index _ x y|.makeSlice _ x y=>tmpsOf x ++ tmpsOf y
 | .lookup _ m k _|.mapEntry _ m k=>tmpsOf m ++ tmpsOf k
 | .mapUpdate _ m k x|.insert _ m k x|.entryStore _ m k x=>tmpsOf m ++ (tmpsOf k ++ tmpsOf x)
 | .makeFunc _ a b=>J6 a.toList ++ J6 b.toList
 | .slice _ x a b c=>tmpsOf x ++ (YW a ++ (YW b ++ YW c))
 | .call c=>J6 c.args.toList ++ (match c.callee with|.value f=>tmpsOf f | _=>[])
 | _=>[]
def qfX (o:Oper):List Tmp:=match o.dst with|some d=>[d]|none=>[]
def qbb (ops:Array Oper) (o:Oper):List Tmp :=
 match o.guard with
 | none=>[]
 | some (j,_)=>match ops[j]? with
  | some o'=>qfX o'
  | none=>[]
def Jg (ops:Array Oper) (o:Oper):List Tmp:=qfX o ++ (qbb ops o ++ Yy o.op)
def yO (ms:List Nat) (m:Nat) (e:Edge):Nat :=
 match Region.binds .any e with
 | true=>m ||| ((1 <<< e.on) ||| (ms[e.on]?).getD 0)
 | false=>m
def qa5 (ms:List Nat) (o:Oper):Nat:=o.after.toList.foldl (yO ms) 0
def masks:List Oper→List Nat→List Nat
 | [],ms=>ms
 | o :: r,ms=>masks r (ms ++ [qa5 ms o])
def prec (ms:List Nat) (k i:Nat):Bool:=match ms[i]? with|some m=>m.testBit k|none=>false
def yF (l:List Nat) (k:Nat):Bool:=l.any (Nat.beq k)
def Yc (ops:Array Oper) (i:Nat):Bool:=match ops[i]? with|some o=>Wq o.op|none=>false
def qet (ops:Array Oper) (i:Nat):Bool :=
 match ops[i]? with
 | some o=>match o.op with
  | .alloc _|.box ..|.buildSlice ..=>true
  | _=>false
 | none=>false
def XP (ops:Array Oper) (ms:List Nat):List Nat :=
 (List.range ops.size).filter fun i=>qet ops i && (List.range ops.size).any fun k=>Yc ops k && (!Nat.beq k i && !(prec ms k i || prec ms i k))
def qG (ops:Array Oper) (fl:List Nat) (i:Nat):Bool:=Yc ops i && !yF fl i
def kR (o:Oper) (names:List Tmp):Bool:=match o.dst with|some d=>yF names d|none=>false
def clash (ops:Array Oper) (fl:List Nat) (k i:Nat):Bool :=
 match ops[k]?,ops[i]? with
 | some a,some b=>kR a (Jg ops b) || (kR b (Jg ops a) || (qG ops fl k && qG ops fl i))
 | _,_=>true
def qb4 (ops:Array Oper) (i:Nat):Bool :=
 match ops[i]? with
 | some o=>o.after.toList.all fun e=>!Region.binds .any e || Nat.blt e.on i
 | none=>false
def YI (ops:Array Oper) (ms:List Nat) (fl:List Nat):Bool :=
 (List.range ops.size).all fun i=>qb4 ops i && (List.range i).all fun k=>!clash ops fl k i || prec ms k i
def Qq (P:Program) (t:Tr Value) (op:Op):Option (Option Nat×List Value×TypeId) :=
 match op with
 | .alloc e=>match Yo P e with
  | some z=>match QT z with
   | true=>some (none,z.cells.toList,e)
   | false=>none
  | none=>none
 | .box e x=>match zY t x with
  | some v=>some (none,v.cells.toList,e)
  | none=>none
 | .buildSlice ty n ps=>match jG t ps.toList,qV P ty with
  | some vs,some e=>match zg P e with
   | some z=>match Nat.ble (n*z.length) 16777216 with
    | true=>match Vl (fun i=>some (i*z.length,z.length)) (zn z n) vs with
     | some c=>some (some n,c,e)
     | none=>none
    | false=>none
   | none=>none
  | _,_=>none
 | _=>none
def QV (k:Option Nat) (b:Nat):Value:=match k with|none=>.pointer (some ⟨b,0,none⟩)|some n=>.slice (some ⟨b,0,none⟩) n n
def wK:Value→Value→Bool
 | .bool a,.bool b=>a == b
 | .int k a,.int k' b=>decide (k=k') && decide (a=b)
 | .string a,.string b=>zA a b
 | .pointer none,.pointer none=>true
 | .pointer (some ⟨b,o,none⟩),.pointer (some ⟨b',o',none⟩)=>Nat.beq b b' && Nat.beq o o'
 | .slice none l c,.slice none l' c'=>Nat.beq l l' && Nat.beq c c'
 | .slice (some ⟨b,o,none⟩) l c,.slice (some ⟨b',o',none⟩) l' c'=>Nat.beq b b' && (Nat.beq o o' && (Nat.beq l l' && Nat.beq c c'))
 | .map none,.map none=>true
 | .nilFunc,.nilFunc=>true
 | .nilIface,.nilIface=>true
 | _,_=>false
def Wj (f:Value→Value→Bool):List Value→List Value→Bool
 | [],[]=>true
 | a :: r,b :: s=>f a b && Wj f r s
 | _,_=>false
def xM:Value→Value→Bool
 | .func (.func g) a c,.func (.func g') a' c'=>Nat.beq g g' && (Wj wK a.toList a'.toList && Wj wK c.toList c'.toList)
 | a,b=>wK a b
def wJ:Value→Value→Bool
 | .agg a,.agg b=>Wj xM a.toList b.toList
 | .tuple a,.tuple b=>Wj xM a.toList b.toList
 | a,b=>xM a b
structure zH where
 t:Tr Value
 h:AH
 go:Bool
 v:Value
def Qk:List (Nat×Nat)→Nat→Option Nat
 | [],_=>none
 | (j,b) :: r,i=>match Nat.beq j i with|true=>some b|false=>Qk r i
def stepD (P:Program) (X:Extern) (run:zI) (ids:List (Nat×Nat)) (place:Bool) (i:Nat) (op:Op) (t:Tr Value) (h:AH):Option (Value×AH) :=
 match Qk ids i with
 | some b=>match Qq P t op with
  | some (k,c,e)=>match place with
   | true=>some (QV k b,{ h with tr:=h.tr.set b (.cells c e none false) })
   | false=>some (QV k b,h)
  | none=>none
 | none=>yg P X run t h op
def JR (s:zH):Option (List zH×Tr Value×AH)→Option (List zH×Tr Value×AH)
 | some (l,t,h)=>some (s :: l,t,h)
 | none=>none
def ZR (P:Program) (X:Extern) (run:zI) (sz:Nat) (ops:Array Oper) (ids:List (Nat×Nat)) (place:Bool):Nat→List Oper→Tr Value→AH→Option (List zH×Tr Value×AH)
 | _,[],t,h=>some ([],t,h)
 | i,o :: r,t,h=>match qp ops t o.guard with
  | some true=>match stepD P X run ids place i o.op t h with
   | some (v,h')=>match XA sz t o.dst v with
    | some t'=>JR ⟨t,h,true,v⟩ (ZR P X run sz ops ids place (i+1) r t' h')
    | none=>none
   | none=>none
  | some false=>match XA sz t o.dst (.tuple #[]) with
   | some t'=>JR ⟨t,h,false,.tuple #[]⟩ (ZR P X run sz ops ids place (i+1) r t' h)
   | none=>none
  | none=>none
def hpAt (l:List zH) (h':AH) (k:Nat):AH:=match l[k]? with|some s=>s.h|none=>h'
def yJ (ms mems:List Nat) (m i:Nat):Bool:=(mems.drop m).any (fun q=>prec ms q i) || (mems.take m).any (fun q=>prec ms i q)
def qhj (P:Program) (ids:List (Nat×Nat)) (i:Nat) (op:Op) (s:zH) (k:AH):Bool :=
 match Qk ids i with
 | some b=>match Qq P s.t op with
  | some (_,c,e)=>match k.get b with
   | some (.cells c' e' none false)=>Nat.beq e e' && Wj xM c c'
   | _=>false
  | none=>false
 | none=>match ja P s.t k op with
  | some (.val v _)=>wJ v s.v
  | _=>false
def qhq (op:Op):Bool:=match op with|.load ..|.slice ..|.convert ..|.lookup ..=>true | _=>false
def KZ (ms mems:List Nat) (i:Nat):Bool:=mems.all fun q=>match Nat.blt q i with|true=>prec ms q i|false=>Nat.beq q i || prec ms i q
def XW (ids:List (Nat×Nat)) (ms mems:List Nat) (i:Nat) (op:Op):Bool:=match Qk ids i with|some _=>false|none=>!qhq op || KZ ms mems i
def gJ (P:Program) (ops:Array Oper) (ids:List (Nat×Nat)) (ms fl mems:List Nat) (hs:List AH) (l:List zH) (i:Nat):Bool :=
 qG ops fl i || match ops[i]?,l[i]? with
  | some o,some s=>!s.go || (XW ids ms mems i o.op || (List.range hs.length).all fun m=>yJ ms mems m i || match hs[m]? with
   | some k=>qhj P ids i o.op s k
   | none=>false)
  | _,_=>false
def OkAtP (P:Program) (ids:List (Nat×Nat)) (i:Nat) (op:Op) (s:zH) (k:AH):Prop :=
 match Qk ids i with
 | some b=>∃ x c e,Qq P s.t op=some (x,c,e)∧k.get b=some (.cells c e none false)
 | none=>∃ u,ja P s.t k op=some (.val s.v u)
def qfh (P:Program) (ops:Array Oper) (ids:List (Nat×Nat)) (ms fl mems:List Nat) (hs:List AH) (l:List zH):Prop :=
 ∀ i,i<ops.size→qG ops fl i=false→∀ o s,ops[i]? = some o→l[i]? = some s→s.go=true→XW ids ms mems i o.op=false→∀ (m:Nat) (k:AH),hs[m]? = some k→yJ ms mems m i=false→OkAtP P ids i o.op s k
def numbered:Nat→List Nat→List (Nat×Nat)
 | _,[]=>[]
 | n,j :: r=>(j,n) :: numbered (n+1) r
def Ky (ops:Array Oper) (ms:List Nat) (j:Nat):List Nat:=(List.range j).filter fun i=>prec ms i j && !Yc ops i
def wC (P:Program) (ops:Array Oper) (sz:Nat) (h:AH) (t:Tr Value) (i:Nat):Tr Value :=
 match ops[i]? with
 | some o=>match qp ops t o.guard with
  | some true=>match ja P t h o.op with
   | some (.val v _)=>match XA sz t o.dst v with
    | some t'=>t'
    | none=>t
   | _=>t
  | _=>t
 | none=>t
def Ye (P:Program) (ops:Array Oper) (sz:Nat) (h:AH) (t:Tr Value) (j:Nat):Qz :=
 match ops[j]? with
 | some o=>match Qq P ((Ky ops (masks ops.toList []) j).foldl (wC P ops sz h) t) o.op with
  | some (_,c,e)=>.cells c e none false
  | none=>.dead
 | _=>.dead
open Classical in
noncomputable def JJ (P:Program) (X:Extern) (run:zI) (sz:Nat) (ops:Array Oper) (ms fl:List Nat) (ids:List (Nat×Nat)) (t:Tr Value) (h:AH):Option (Tr Value×AH) :=
 match ZR P X run sz ops ids false 0 ops.toList t h with
 | some (l,t',h') =>
  let mems:=(List.range ops.size).filter (qG ops fl)
  let hs:=h :: mems.map fun i=>hpAt l h' (i+1)
  match (List.range ops.size).all (gJ P ops ids ms fl mems hs l) with
  | true=>some (t',h')
  | false=>if qfh P ops ids ms fl mems hs l then some (t',h') else none
 | none=>none
noncomputable def WN (P:Program) (X:Extern) (run:zI) (sz:Nat) (ops:Array Oper) (t:Tr Value) (h:AH):Option (Tr Value×AH) :=
 let ms:=masks ops.toList []
 let fl:=XP ops ms
 match YI ops ms fl with
 | true=>match fl with
  | []=>JJ P X run sz ops ms [] [] t h
  | j :: r=>JJ P X run sz ops ms (j :: r) (numbered h.next (j :: r)) t (((j :: r).map (Ye P ops sz h t)).foldl AH.add h)
 | false=>none
noncomputable def zD (P:Program) (X:Extern) (run:zI):zI:=fun inR sz c t h =>
 match c with
 | .skip=>some (.norm,t,h)
 | .label _=>some (.norm,t,h)
 | .seq a b=>match run inR sz a t h with
  | some (.norm,t',h')=>run inR sz b t' h'
  | r=>r
 | .cond c a b=>match zY t c with
  | some (.bool true)=>run inR sz a t h
  | some (.bool false)=>run inR sz b t h
  | _=>none
 | .block id body=>match run inR sz body t h with
  | some (.exit id',t',h')=>match Nat.beq id' id with
   | true=>some (.norm,t',h')
   | false=>some (.exit id',t',h')
  | r=>r
 | .loop body=>match run inR sz body t h with
  | some (.norm,t',h')=>run inR sz (.loop body) t' h'
  | r=>r
 | .scope body=>run inR sz body t h
 | .exit id=>some (.exit id,t,h)
 | .ret=>some (.ret,t,h)
 | .region _ ops false=>match XB P X run sz ops ops.toList t h with
  | some (t',h')=>some (.norm,t',h')
  | none=>none
 | .region _ ops true=>match WN P X run sz ops t h with
  | some (t',h')=>some (.norm,t',h')
  | none=>none
 | .rangeFunc f ps assign body=>match inR,zY t f with
  | false,some (.func (.func g) first captured) =>
   match Qe P X run g (first.toList ++ (.func (.yield h.next) #[] #[] :: captured.toList)) (h.add (.loop .ready none sz t ps.toList assign body)) with
   | some (_,h')=>match h'.get h.next with
    | some (.loop st pend sz' tmps' ps' asg' bo') =>
     match st with
     | .busy=>none
     | _=>match pend with
      | none=>some (.norm,t,h'.put h.next (.loop .exhausted pend sz' tmps' ps' asg' bo'))
      | some (.exit id)=>some (.exit id,t,h'.put h.next (.loop .exhausted pend sz' tmps' ps' asg' bo'))
      | some .ret=>some (.ret,t,h'.put h.next (.loop .exhausted pend sz' tmps' ps' asg' bo'))
      | _=>none
    | _=>none
   | none=>none
  | _,_=>none
 | _=>none
noncomputable def exec (P:Program) (X:Extern) (n:Nat):zI :=
 Nat.rec (fun _ _ _ _ _=>none) (fun _ ih=>zD P X ih) n
end Go.Proofs.Xx
namespace Go.Proofs.Xx
open Go
structure Loc where
 blk:Nat
 sh:Nat
 slack:Nat
abbrev Emb:=Nat→Option Loc
mutual
inductive VR (f:Emb):Value→Value→Prop where
 | bool (b:Bool):VR f (.bool b) (.bool b)
 | int (k:IntKind) (n:Int):VR f (.int k n) (.int k n)
 | float (k:FloatKind) (n:Nat):VR f (.float k n) (.float k n)
 | string (s:ByteArray):VR f (.string s) (.string s)
 | nilPointer:VR f (.pointer none) (.pointer none)
 | pointer (b o:Nat) (L:Loc) (h:f b=some L):VR f (.pointer (some ⟨b,o,none⟩)) (.pointer (some ⟨L.blk,L.sh+o,none⟩))
 | nilSlice:VR f (.slice none 0 0) (.slice none 0 0)
 | slice (b o:Nat) (a:Addr) (len cap:Nat) (L:Loc) (h:f b=some L) (hl:len≤cap) (ho:a=⟨L.blk,L.sh+o,none⟩∨(cap=0∧L.slack=0)) :
  VR f (.slice (some ⟨b,o,none⟩) len cap) (.slice (some a) len (cap+L.slack))
 | nilMap:VR f (.map none) (.map none)
 | map (b:Nat) (L:Loc) (h:f b=some L):VR f (.map (some b)) (.map (some L.blk))
 | func (g:FuncId) (a a' c c':List Value) (h1:VRs f a a') (h2:VRs f c c'):VR f (.func (.func g) a.toArray c.toArray) (.func (.func g) a'.toArray c'.toArray)
 | yield (l:Nat) (L:Loc) (h:f l=some L):VR f (.func (.yield l) #[] #[]) (.func (.yield L.blk) #[] #[])
 | nilFunc:VR f .nilFunc .nilFunc
 | nilIface:VR f .nilIface .nilIface
 | agg (c c':List Value) (h:VRs f c c'):VR f (.agg c.toArray) (.agg c'.toArray)
 | tuple (c c':List Value) (h:VRs f c c'):VR f (.tuple c.toArray) (.tuple c'.toArray)
inductive VRs (f:Emb):List Value→List Value→Prop where
 | nil:VRs f [] []
 | cons (v v':Value) (r r':List Value) (h:VR f v v') (hr:VRs f r r'):VRs f (v :: r) (v' :: r')
end
def Emb.le (f g:Emb):Prop:=∀ b L,f b=some L→g b=some L
theorem Emb.le_refl (f:Emb):f.le f:=fun _ _ h=>h
theorem Emb.le_trans {f g k:Emb} (h:f.le g) (h':g.le k):f.le k:=fun b L e=>h' b L (h b L e)
mutual
theorem VR.mono {f g:Emb} (hle:f.le g):∀ {v v':Value},VR f v v'→VR g v v'
 | _,_,.bool b=>.bool b
 | _,_,.int k n=>.int k n
 | _,_,.float k n=>.float k n
 | _,_,.string s=>.string s
 | _,_,.nilPointer=>.nilPointer
 | _,_,.pointer b o L h=>.pointer b o L (hle b L h)
 | _,_,.nilSlice=>.nilSlice
 | _,_,.slice b o a len cap L h hl ho=>.slice b o a len cap L (hle b L h) hl ho
 | _,_,.nilMap=>.nilMap
 | _,_,.map b L h=>.map b L (hle b L h)
 | _,_,.func gg a a' c c' h1 h2=>.func gg a a' c c' (VRs.mono hle h1) (VRs.mono hle h2)
 | _,_,.yield l L h=>.yield l L (hle l L h)
 | _,_,.nilFunc=>.nilFunc
 | _,_,.nilIface=>.nilIface
 | _,_,.agg c c' h=>.agg c c' (VRs.mono hle h)
 | _,_,.tuple c c' h=>.tuple c c' (VRs.mono hle h)
theorem VRs.mono {f g:Emb} (hle:f.le g):∀ {c c':List Value},VRs f c c'→VRs g c c'
 | _,_,.nil=>.nil
 | _,_,.cons v v' r r' h hr=>.cons v v' r r' (VR.mono hle h) (VRs.mono hle hr)
end
theorem VRs.length {f:Emb}:∀ {c c':List Value},VRs f c c'→c'.length=c.length
 | _,_,.nil=>rfl
 | _,_,.cons _ _ _ _ _ hr=>by simp [VRs.length hr]
theorem VRs.get {f:Emb}:∀ {c c':List Value},VRs f c c'→∀ (i:Nat) (v:Value),c[i]? = some v→∃ v',c'[i]? = some v'∧VR f v v'
 | _,_,.nil,i,v,h=>by simp at h
 | _,_,.cons w w' r r' hw hr,i,v,h=>by
  cases i with
  | zero=>simp at h;subst h;exact ⟨w',by simp,hw⟩
  | succ i=>simp at h;obtain ⟨v',h1,h2⟩:=VRs.get hr i v h;exact ⟨v',by simpa using h1,h2⟩
theorem VRs.append {f:Emb}:∀ {a a' b b':List Value},VRs f a a'→VRs f b b'→VRs f (a ++ b) (a' ++ b')
 | _,_,_,_,.nil,h=>h
 | _,_,_,_,.cons v v' r r' hv hr,h=>.cons v v' _ _ hv (VRs.append hr h)
theorem VRs.take {f:Emb}:∀ {a a':List Value},VRs f a a'→∀ n,VRs f (a.take n) (a'.take n)
 | _,_,.nil,n=>by simp;exact .nil
 | _,_,.cons v v' r r' hv hr,n=>by
  cases n with
  | zero=>simp;exact .nil
  | succ n=>simp;exact .cons _ _ _ _ hv (VRs.take hr n)
theorem VRs.drop {f:Emb}:∀ {a a':List Value},VRs f a a'→∀ n,VRs f (a.drop n) (a'.drop n)
 | _,_,.nil,n=>by simp;exact .nil
 | _,_,.cons v v' r r' hv hr,n=>by
  cases n with
  | zero=>simp;exact .cons _ _ _ _ hv hr
  | succ n=>simp;exact VRs.drop hr n
theorem VRs.qef {f:Emb}:∀ {c c':List Value},c'.length=c.length→(∀ (i:Nat) (v:Value),c[i]? = some v→∃ v',c'[i]? = some v'∧VR f v v')→VRs f c c'
 | [],[],_,_=>.nil
 | [],_ :: _,h,_=>by simp at h
 | _ :: _,[],h,_=>by simp at h
 | v :: r,v' :: r',hl,h=>by
  obtain ⟨w,h1,h2⟩:=h 0 v (by simp);simp at h1;subst h1;refine .cons _ _ _ _ h2 (VRs.qef (by simpa using hl) fun i u hu=>?_);obtain ⟨w,h3,h4⟩:=h (i+1) u (by simpa using hu);exact ⟨w,by simpa using h3,h4⟩
theorem VRs.one {f:Emb} {v v':Value} (h:VR f v v'):VRs f [v] [v']:=.cons _ _ _ _ h .nil
theorem VR.jZ (f:Emb) (v:Value) (h:jZ v=true):VR f v v:=by
 cases v with
 | bool b=>exact .bool b
 | int k n=>exact .int k n
 | float k n=>exact .float k n
 | string s=>exact .string s
 | pointer a=>cases a with
  | none=>exact .nilPointer
  | some a=>simp [Xx.jZ] at h
 | slice a l c =>
  cases a with
  | none =>
   cases l with
   | zero=>cases c with
    | zero=>exact .nilSlice
    | succ c=>simp [Xx.jZ] at h
   | succ l=>simp [Xx.jZ] at h
  | some a=>simp [Xx.jZ] at h
 | map r=>cases r with
  | none=>exact .nilMap
  | some r=>simp [Xx.jZ] at h
 | func fn first captured =>
  cases fn with
  | func g =>
   simp [Xx.jZ] at h
   obtain ⟨rfl,rfl⟩:=h;exact .func g [] [] [] [] .nil .nil
  | method _=>simp [Xx.jZ] at h
  | methodOf _ _=>simp [Xx.jZ] at h
  | via _ _ _ _=>simp [Xx.jZ] at h
  | yield _=>simp [Xx.jZ] at h
 | nilFunc=>exact .nilFunc
 | nilIface=>exact .nilIface
 | _=>simp [Xx.jZ] at h
theorem VRs.plain (f:Emb):∀ (c:List Value),c.all jZ=true→VRs f c c
 | [],_=>.nil
 | v :: r,h=>by simp at h;exact .cons _ _ _ _ (VR.jZ f v h.1) (VRs.plain f r (by simpa using h.2))
theorem VR.plain (f:Emb) (v:Value) (h:QT v=true):VR f v v:=by
 cases v with
 | agg cs=>exact VR.agg (f:=f) cs.toList cs.toList (VRs.plain f _ (by simpa [QT] using h))
 | _=>exact VR.jZ f _ (by simpa [QT] using h)
theorem VR.cells {f:Emb} {v v':Value} (h:VR f v v'):VRs f v.cells.toList v'.cells.toList:=by
 cases h with
 | agg c c' h=>simpa [Value.cells] using h
 | _=>simp only [Value.cells];refine VRs.one ?_;constructor<;>assumption
theorem VR.one? {f:Emb} {v v':Value} (h:VR f v v'):one? v'=one? v:=by cases h<;>rfl
theorem VRs.one? {f:Emb}:∀ {c c':List Value},VRs f c c'→c'.all one? = c.all one?
 | _,_,.nil=>rfl
 | _,_,.cons _ _ _ _ hv hr=>by simp [VR.one? hv,VRs.one? hr]
def TR (f:Emb) (sz:Nat) (t:Tr Value) (tm:Array Value):Prop :=
 tm.size=sz∧∀ k v,t.get k=some v→∃ v',tm[k]? = some v'∧VR f v v'
def EntR (f:Emb) (e:Value×Value×Nat) (e':MapEntry):Prop:=VR f e.1 e'.key∧VR f e.2.1 e'.val∧e.2.2=e'.born
inductive EsR (f:Emb):List (Value×Value×Nat)→List MapEntry→Prop where
 | nil:EsR f [] []
 | cons {e:Value×Value×Nat} {e':MapEntry} {r:List (Value×Value×Nat)} {r':List MapEntry} (h:EntR f e e') (hr:EsR f r r'):EsR f (e :: r) (e' :: r')
theorem EntR.mono {f g:Emb} (hle:f.le g) {e:Value×Value×Nat} {e':MapEntry} (h:EntR f e e'):EntR g e e':=⟨h.1.mono hle,h.2.1.mono hle,h.2.2⟩
theorem EsR.mono {f g:Emb} (hle:f.le g) {e:List (Value×Value×Nat)} {e':List MapEntry} (h:EsR f e e'):EsR g e e':=by
 induction h with
 | nil=>exact .nil
 | cons h _ ih=>exact .cons (h.mono hle) ih
def ObjR (f:Emb) (L:Loc) (w:World):Qz→Prop
 | .cells c e slk ro=>∃ cc fr,w.heap[L.blk]? = some (.cells cc e fr)∧L.sh+c.length≤cc.size ∧
  (∀ i v,c[i]? = some v→∃ v',cc[L.sh+i]? = some v'∧VR f v v') ∧
  (slk=none→L.slack=0∧(ro=false→L.sh=0∧cc.size=c.length)) ∧
  (∀ k,slk=some k→L.sh+c.length+L.slack*k≤cc.size) ∧
  (ro=false→∀ i,¬ (fr.1≤i∧i<fr.2))
 | .loop st pend sz t ps asg bo=>∃ fn tm D,w.heap[L.blk]? = some (.loop { state:=st,pending:=pend,fn:=fn,tmps:=tm,params:=ps.toArray,assign:=asg,body:=bo,defers:=D })∧TR f sz t tm
 | .map es clock=>∃ es',w.heap[L.blk]? = some (.map es' clock)∧EsR f es es'.toList
 | .dead=>True
def JB:Qz→Bool
 | .cells _ _ _ ro=>!ro
 | .loop ..=>true
 | .map ..=>true
 | .dead=>false
def live:Qz→Bool
 | .dead=>false
 | _=>true
class Glob where
 ok:Nat→Array Obj→Prop
structure Bs where
 lo:Nat
 ref:Array Obj
section
variable [Glob]
structure Rel (B:Bs) (f:Emb) (h:AH) (w:World):Prop where
 dom:∀ b L,f b=some L→b<h.next
 wf:∀ b,h.next≤b→h.get b=none
 rng:∀ b L,f b=some L→L.blk<w.heap.size
 obj:∀ b L o,f b=some L→h.get b=some o→ObjR f L w o
 inj:∀ b L o b' L' o',f b=some L→h.get b=some o→f b'=some L'→h.get b'=some o'→L.blk=L'.blk→live o=true→JB o'=true→b=b'
 own:∀ b L o,f b=some L→h.get b=some o→JB o=true→B.lo≤L.blk
 base:B.lo≤w.heap.size
 keep:∀ k,k<B.lo→w.heap[k]? = B.ref[k]?
 glob:Glob.ok B.lo B.ref
end
structure Turn (f:Emb) (h:AH) (w:World) (f':Emb) (h':AH) (w':World):Prop where
 le:f.le f'
 next:h.next≤h'.next
 low:h'.low≤h.low
 old:∀ b L,f' b=some L→b<h.next→f b=some L
 fresh:∀ b L,f' b=some L→f b=none→w.heap.size≤L.blk∨∃ a M,f a=some M∧M.blk=L.blk∧h'.low≤a
 size:w.heap.size≤w'.heap.size
 keep:∀ k,k<w.heap.size→(∀ b L,f b=some L→L.blk=k→b<h'.low)→w'.heap[k]? = w.heap[k]?
 same:∀ b,b<h.next→b<h'.low→h'.get b=h.get b
 os:w'.os=w.os
 tape:w'.tape=w.tape
 output:w'.output=w.output
theorem Turn.refl (f:Emb) (h:AH) (w:World):Turn f h w f h w :=
 ⟨f.le_refl,zA3 _,zA3 _,fun _ _ e _=>e,fun b L e n=>(by rw [n] at e;cases e),zA3 _,fun _ _ _=>rfl,fun _ _ _=>rfl,rfl,rfl,rfl⟩
theorem Turn.trans {f f1 f2:Emb} {h h1 h2:AH} {w w1 w2:World} (a:Turn f h w f1 h1 w1) (b:Turn f1 h1 w1 f2 h2 w2) (hdom:∀ b L,f b=some L→b<h.next):Turn f h w f2 h2 w2 where
 le:=Emb.le_trans a.le b.le
 next:=zD0 a.next b.next
 low:=zD0 b.low a.low
 old:=fun k L e hk=>a.old k L (b.old k L e (zE3 hk a.next)) hk
 fresh:=fun k L e n=>by
  cases e1:f1 k with
  | some L1 =>
   have:=b.le k L1 e1;rw [e] at this;cases this
   rcases a.fresh k L e1 n with h|⟨p,M,h1,h2,h3⟩
   ·exact .inl h
   ·exact .inr ⟨p,M,h1,h2,zD0 b.low h3⟩
  | none =>
   rcases b.fresh k L e e1 with h|⟨p,M,h1,h2,h3⟩
   ·exact .inl (zD0 a.size h)
   ·cases e0:f p with
    | some M0 =>
     have:=a.le p M0 e0;rw [h1] at this;cases this
     exact .inr ⟨p,M,e0,h2,h3⟩
    | none =>
     rcases a.fresh p M h1 e0 with h|⟨q,N,q1,q2,q3⟩
     ·exact .inl (h2 ▸ h)
     ·exact .inr ⟨q,N,q1,q2.trans h2,zD0 b.low q3⟩
 size:=zD0 a.size b.size
 keep:=fun k hk hq=>by
  have h1:w1.heap[k]? = w.heap[k]?:=a.keep k hk fun p L e1 e2=>zE3 (hq p L e1 e2) b.low;refine (b.keep k (zE3 hk a.size) fun p L e1 e2=>?_).trans h1;cases e0:f p with
  | some M0 =>
   have:=a.le p M0 e0;rw [e1] at this;cases this
   exact hq p L e0 e2
  | none =>
   rcases a.fresh p L e1 e0 with h|⟨q,N,q1,q2,q3⟩
   ·omega
   ·have:=hq q N q1 (q2.trans e2);have:=b.low;omega
 same:=fun k hk hl=>(b.same k (zE3 hk a.next) hl).trans (a.same k hk (zE3 hl b.low))
 os:=b.os.trans a.os
 tape:=b.tape.trans a.tape
 output:=b.output.trans a.output
theorem TR.mono {f g:Emb} {sz:Nat} {t:Tr Value} {tm:Array Value} (hle:f.le g) (h:TR f sz t tm):TR g sz t tm :=
 ⟨h.1,fun k v e=>let ⟨v',h1,h2⟩:=h.2 k v e;⟨v',h1,h2.mono hle⟩⟩
theorem TR.set {f:Emb} {sz:Nat} {t:Tr Value} {tm:Array Value} (h:TR f sz t tm) {k:Nat} (hk:k<sz) {v v':Value} (hv:VR f v v'):TR f sz (t.set k v) (tm.setIfInBounds k v'):=by
 refine ⟨by simp [h.1],fun j u e=>?_⟩;rw [Tr.QB] at e;by_cases hj:j=k
 ·subst hj;rw [if_pos rfl] at e;cases e
  exact ⟨v',by simp [h.1,hk],hv⟩
 ·rw [if_neg hj] at e;obtain ⟨u',h1,h2⟩:=h.2 j u e;exact ⟨u',by rw [Array.getElem?_setIfInBounds_ne (by omega)];exact h1,h2⟩
theorem ObjR.mono {f g:Emb} (hle:f.le g) {L:Loc} {w:World} {o:Qz} (h:ObjR f L w o):ObjR g L w o:=by
 cases o with
 | cells c e slk ro =>
  obtain ⟨cc,fr,h1,h2,h3,h4⟩:=h;exact ⟨cc,fr,h1,h2,fun i v e=>let ⟨v',q1,q2⟩:=h3 i v e;⟨v',q1,q2.mono hle⟩,h4⟩
 | loop st pend sz t ps asg bo =>
  obtain ⟨fn,tm,D,h1,h2⟩:=h;exact ⟨fn,tm,D,h1,h2.mono hle⟩
 | map es clock =>
  obtain ⟨es',h1,h2⟩:=h;exact ⟨es',h1,h2.mono hle⟩
 | dead=>trivial
theorem ObjR.world {f:Emb} {L:Loc} {w w':World} {o:Qz} (hw:w'.heap[L.blk]? = w.heap[L.blk]?) (h:ObjR f L w o):ObjR f L w' o:=by
 cases o with
 | cells c e slk ro=>simpa only [ObjR,hw] using h
 | loop st pend sz t ps asg bo=>simpa only [ObjR,hw] using h
 | map es clock=>simpa only [ObjR,hw] using h
 | dead=>trivial
theorem Rel.low [Glob] {B:Bs} {f:Emb} {h:AH} {w:World} (r:Rel B f h w) (k:Nat):Rel B f { h with low:=k } w :=
 ⟨r.dom,r.wf,r.rng,r.obj,r.inj,r.own,r.base,r.keep,r.glob⟩
end Go.Proofs.Xx
namespace Go.Proofs.Xx
open Go
theorem ZU (a b:Nat):lowest a b≤a:=by
 unfold lowest;cases h:Nat.ble a b with
 | true=>exact zA3 _
 | false =>
  simp only;have:¬ a≤b:=fun q=>by rw [zB3 q] at h;cases h
  omega
theorem jq (a b:Nat):lowest a b≤b:=by
 unfold lowest;cases h:Nat.ble a b with
 | true=>exact zB6 h
 | false=>exact zA3 _
theorem qia (a b:Nat):lowest a b=a∨lowest a b=b:=by unfold lowest;cases Nat.ble a b<;>simp
theorem AH.zf (h:AH) (o:Qz) (b:Nat):(h.add o).get b=if b=h.next then some o else h.get b:=Tr.QB _ _ _ _
theorem AH.get_put (h:AH) (c:Nat) (o:Qz) (b:Nat):(h.put c o).get b=if b=c then some o else h.get b:=Tr.QB _ _ _ _
structure Wrote (w w':World) (k:Nat) (o:Obj):Prop where
 here:w'.heap[k]? = some o
 other:∀ j,j≠k→w'.heap[j]? = w.heap[j]?
 size:w'.heap.size=w.heap.size
 os:w'.os=w.os
 tape:w'.tape=w.tape
 output:w'.output=w.output
theorem Wrote.same {w:World} {k:Nat} {o:Obj} (h:w.heap[k]? = some o):Wrote w w k o:=⟨h,fun _ _=>rfl,rfl,rfl,rfl,rfl⟩
theorem Wrote.trans {w w1 w2:World} {k:Nat} {o o':Obj} (a:Wrote w w1 k o) (b:Wrote w1 w2 k o'):Wrote w w2 k o' :=
 ⟨b.here,fun j hj=>(b.other j hj).trans (a.other j hj),b.size.trans a.size,b.os.trans a.os,b.tape.trans a.tape,b.output.trans a.output⟩
theorem Rel.put [Glob] {B:Bs} {f:Emb} {h:AH} {w w':World} (r:Rel B f h w) {b:Nat} {L:Loc} {o o':Qz} {ob:Obj} (hf:f b=some L) (hg:h.get b=some o)
 (hw:JB o=true) (hwr:Wrote w w' L.blk ob) (ho:ObjR f L w' o') (hl:live o'=true→live o=true):Rel B f (h.put b o') w'∧Turn f h w f (h.put b o') w':=by
 have hlv:live o=true:=by cases o<;>simp_all [JB,live]
 refine ⟨⟨r.dom,fun k hk=>?_,fun k M e=>by rw [hwr.size];exact r.rng k M e,fun k M p e1 e2=>?_,fun k M p k' M' p' e1 e2 e3 e4 e5 e6 e7=>?_,fun k M p e1 e2 e3=>?_,by rw [hwr.size];exact r.base,fun k hk=>(hwr.other k fun q=>by have:=r.own b L o hf hg hw;omega).trans (r.keep k hk),r.glob⟩,?_⟩
 ·rw [AH.get_put,if_neg (by have:=r.dom b L hf;simp only [AH.put] at hk;omega)];exact r.wf k hk
 ·rw [AH.get_put] at e2;by_cases hk:k=b
  ·subst hk;rw [if_pos rfl] at e2;cases e2
   rw [hf] at e1;cases e1
   exact ho
  ·rw [if_neg hk] at e2;by_cases hlp:live p=true
   ·refine (r.obj k M p e1 e2).world (hwr.other _ fun q=>hk (r.inj k M p b L o e1 e2 hf hg q hlp hw))
   ·cases p<;>simp_all [live,ObjR]
 ·rw [AH.get_put] at e2 e4;by_cases hk:k=b
  ·by_cases hk':k'=b
   ·omega
   ·subst hk;rw [hf] at e1;cases e1
    rw [if_neg hk'] at e4;exact r.inj k L o k' M' p' hf hg e3 e4 e5 hlv e7
  ·rw [if_neg hk] at e2;by_cases hk':k'=b
   ·subst hk';rw [hf] at e3;cases e3
    exact r.inj k M p k' L o e1 e2 hf hg e5 e6 hw
   ·rw [if_neg hk'] at e4;exact r.inj k M p k' M' p' e1 e2 e3 e4 e5 e6 e7
 ·rw [AH.get_put] at e2;by_cases hk:k=b
  ·subst hk;rw [hf] at e1;cases e1
   exact r.own k L o hf hg hw
  ·rw [if_neg hk] at e2;exact r.own k M p e1 e2 e3
 ·refine ⟨f.le_refl,zA3 _,ZU _ _,fun _ _ e _=>e,fun k M e n=>(by rw [n] at e;cases e),by rw [hwr.size];exact zA3 _,fun k hk hq=>?_,fun k hk hlo=>?_,hwr.os,hwr.tape,hwr.output⟩
  ·refine hwr.other k fun q=>?_;have h1:=hq b L hf q.symm;have h2:(h.put b o').low≤b:=jq _ _;omega
  ·rw [AH.get_put,if_neg];have h2:(h.put b o').low≤b:=jq _ _;omega
def Emb.put (f:Emb) (n:Nat) (L:Loc):Emb:=fun k=>if k=n then some L else f k
theorem Emb.qP (f:Emb) (n:Nat) (L:Loc):f.put n L n=some L:=if_pos rfl
theorem Emb.zh (f:Emb) {n k:Nat} (L:Loc) (h:k≠n):f.put n L k=f k:=if_neg h
theorem Rel.qih [Glob] {B:Bs} {f:Emb} {h:AH} {w:World} (r:Rel B f h w):f h.next=none:=by
 cases e:f h.next with
 | none=>rfl
 | some L=>have:=r.dom _ L e;omega
theorem Rel.QW [Glob] {B:Bs} {f:Emb} {h:AH} {w:World} (r:Rel B f h w) (L:Loc):f.le (f.put h.next L):=by
 intro b M e;rw [Emb.zh];exact e
 have:=r.dom b M e;omega
structure Pushed (w w':World) (o:Obj):Prop where
 heap:w'.heap=w.heap.push o
 os:w'.os=w.os
 tape:w'.tape=w.tape
 output:w'.output=w.output
theorem Pushed.size {w w':World} {o:Obj} (p:Pushed w w' o):w'.heap.size=w.heap.size+1:=by rw [p.heap];simp
theorem Pushed.old {w w':World} {o:Obj} (p:Pushed w w' o) (k:Nat) (hk:k<w.heap.size):w'.heap[k]? = w.heap[k]?:=by
 rw [p.heap,Array.getElem?_push,if_neg (by omega)]
theorem Pushed.new {w w':World} {o:Obj} (p:Pushed w w' o):w'.heap[w.heap.size]? = some o:=by
 rw [p.heap,Array.getElem?_push,if_pos rfl]
theorem Rel.add [Glob] {B:Bs} {f:Emb} {h:AH} {w w':World} (r:Rel B f h w) {ob:Obj} (hp:Pushed w w' ob) {o:Qz} {s:Nat}
 (ho:ObjR (f.put h.next ⟨w.heap.size,0,s⟩) ⟨w.heap.size,0,s⟩ w' o) :
 Rel B (f.put h.next ⟨w.heap.size,0,s⟩) (h.add o) w'∧Turn f h w (f.put h.next ⟨w.heap.size,0,s⟩) (h.add o) w':=by
 have hle:=r.QW ⟨w.heap.size,0,s⟩;refine ⟨⟨fun b M e=>?_,fun k hk=>?_,fun b M e=>?_,fun b M p e1 e2=>?_,fun k M p k' M' p' e1 e2 e3 e4 e5 e6 e7=>?_,fun k M p e1 e2 e3=>?_,by rw [hp.size];have:=r.base;omega,fun k hk=>(hp.old k (by have:=r.base;omega)).trans (r.keep k hk),r.glob⟩,?_⟩
 ·by_cases hb:b=h.next
  ·subst hb;exact zG0 _
  ·rw [Emb.zh _ _ hb] at e;exact Nat.lt_succ_of_lt (r.dom b M e)
 ·have hk':h.next+1≤k:=hk
  rw [AH.zf,if_neg (by omega)];exact r.wf k (by omega)
 ·rw [hp.size];by_cases hb:b=h.next
  ·subst hb;rw [Emb.qP] at e;cases e;exact zG0 _
  ·rw [Emb.zh _ _ hb] at e;exact Nat.lt_succ_of_lt (r.rng b M e)
 ·rw [AH.zf] at e2;by_cases hb:b=h.next
  ·subst hb;rw [Emb.qP] at e1;cases e1;rw [if_pos rfl] at e2;cases e2;exact ho
  ·rw [Emb.zh _ _ hb] at e1;rw [if_neg hb] at e2;exact ((r.obj b M p e1 e2).world (hp.old _ (r.rng b M e1))).mono hle
 ·rw [AH.zf] at e2 e4;by_cases hk:k=h.next
  ·by_cases hk':k'=h.next
   ·omega
   ·subst hk;rw [Emb.qP] at e1;cases e1
    rw [Emb.zh _ _ hk'] at e3;have:=r.rng k' M' e3;simp only at e5;omega
  ·rw [Emb.zh _ _ hk] at e1;rw [if_neg hk] at e2;by_cases hk':k'=h.next
   ·subst hk';rw [Emb.qP] at e3;cases e3
    have:=r.rng k M e1;simp only at e5;omega
   ·rw [Emb.zh _ _ hk'] at e3;rw [if_neg hk'] at e4;exact r.inj k M p k' M' p' e1 e2 e3 e4 e5 e6 e7
 ·rw [AH.zf] at e2;by_cases hk:k=h.next
  ·subst hk;rw [Emb.qP] at e1;cases e1;exact r.base
  ·rw [Emb.zh _ _ hk] at e1;rw [if_neg hk] at e2;exact r.own k M p e1 e2 e3
 ·refine ⟨hle,Nat.le_succ _,zA3 _,fun b M e hb=>?_,fun b M e n=>?_,by rw [hp.size];omega,fun k hk _=>hp.old k hk,fun b hb _=>?_,hp.os,hp.tape,hp.output⟩
  ·rw [Emb.zh _ _ (by omega)] at e;exact e
  ·by_cases hb:b=h.next
   ·subst hb;rw [Emb.qP] at e;cases e;exact .inl (zA3 _)
   ·rw [Emb.zh _ _ hb,n] at e;cases e
  ·rw [AH.zf,if_neg (by omega)]
theorem Rel.kill [Glob] {B:Bs} {f:Emb} {h:AH} {w:World} (r:Rel B f h w) {b:Nat} {L:Loc} (hf:f b=some L):Rel B f (h.put b .dead) w∧Turn f h w f (h.put b .dead) w:=by
 refine ⟨⟨r.dom,fun k hk=>?_,r.rng,fun k M p e1 e2=>?_,fun k M p k' M' p' e1 e2 e3 e4 e5 e6 e7=>?_,fun k M p e1 e2 e3=>?_,r.base,r.keep,r.glob⟩,?_⟩
 ·rw [AH.get_put,if_neg (by have:=r.dom b L hf;simp only [AH.put] at hk;omega)];exact r.wf k hk
 ·rw [AH.get_put] at e2;by_cases hk:k=b
  ·rw [if_pos hk] at e2;cases e2;trivial
  ·rw [if_neg hk] at e2;exact r.obj k M p e1 e2
 ·rw [AH.get_put] at e2 e4;by_cases hk:k=b
  ·rw [if_pos hk] at e2;cases e2;cases e6
  ·by_cases hk':k'=b
   ·rw [if_pos hk'] at e4;cases e4;cases e7
   ·rw [if_neg hk] at e2;rw [if_neg hk'] at e4;exact r.inj k M p k' M' p' e1 e2 e3 e4 e5 e6 e7
 ·rw [AH.get_put] at e2;by_cases hk:k=b
  ·rw [if_pos hk] at e2;cases e2;cases e3
  ·rw [if_neg hk] at e2;exact r.own k M p e1 e2 e3
 ·refine ⟨f.le_refl,zA3 _,ZU _ _,fun _ _ e _=>e,fun k M e n=>(by rw [n] at e;cases e),zA3 _,fun _ _ _=>rfl,fun k hk hlo=>?_,rfl,rfl,rfl⟩;rw [AH.get_put,if_neg];have h2:(h.put b .dead).low≤b:=jq _ _;omega
theorem Rel.view [Glob] {B:Bs} {f:Emb} {h:AH} {w w':World} (r:Rel B f h w) {a:Nat} {M0:Loc} (ha:f a=some M0) (hlow:h.low≤a)
 (hno:∀ b L o,f b=some L→h.get b=some o→live o=true→L.blk≠M0.blk) (hB:B.lo≤M0.blk) {ob:Obj} (hwr:Wrote w w' M0.blk ob) {o:Qz} {sh s:Nat}
 (ho:ObjR (f.put h.next ⟨M0.blk,sh,s⟩) ⟨M0.blk,sh,s⟩ w' o) :
 Rel B (f.put h.next ⟨M0.blk,sh,s⟩) (h.add o) w'∧Turn f h w (f.put h.next ⟨M0.blk,sh,s⟩) (h.add o) w':=by
 have hle:=r.QW ⟨M0.blk,sh,s⟩;have hrng:=r.rng a M0 ha;refine ⟨⟨fun b M e=>?_,fun k hk=>?_,fun b M e=>?_,fun b M p e1 e2=>?_,fun k M p k' M' p' e1 e2 e3 e4 e5 e6 e7=>?_,fun k M p e1 e2 e3=>?_,by rw [hwr.size];exact r.base,fun k hk=>(hwr.other k (by omega)).trans (r.keep k hk),r.glob⟩,?_⟩
 ·by_cases hb:b=h.next
  ·subst hb;exact zG0 _
  ·rw [Emb.zh _ _ hb] at e;exact Nat.lt_succ_of_lt (r.dom b M e)
 ·have hk':h.next+1≤k:=hk
  rw [AH.zf,if_neg (by omega)];exact r.wf k (by omega)
 ·rw [hwr.size];by_cases hb:b=h.next
  ·subst hb;rw [Emb.qP] at e;cases e;exact hrng
  ·rw [Emb.zh _ _ hb] at e;exact r.rng b M e
 ·rw [AH.zf] at e2;by_cases hb:b=h.next
  ·subst hb;rw [Emb.qP] at e1;cases e1;rw [if_pos rfl] at e2;cases e2;exact ho
  ·rw [Emb.zh _ _ hb] at e1;rw [if_neg hb] at e2;by_cases hlp:live p=true
   ·exact ((r.obj b M p e1 e2).world (hwr.other _ (hno b M p e1 e2 hlp))).mono hle
   ·cases p<;>simp_all [live,ObjR]
 ·rw [AH.zf] at e2 e4;by_cases hk:k=h.next
  ·by_cases hk':k'=h.next
   ·omega
   ·subst hk;rw [Emb.qP] at e1;cases e1
    rw [Emb.zh _ _ hk'] at e3;rw [if_neg hk'] at e4;exact absurd e5.symm (hno k' M' p' e3 e4 (by cases p'<;>simp_all [JB,live]))
  ·rw [Emb.zh _ _ hk] at e1;rw [if_neg hk] at e2;by_cases hk':k'=h.next
   ·subst hk';rw [Emb.qP] at e3;cases e3
    exact absurd e5 (hno k M p e1 e2 e6)
   ·rw [Emb.zh _ _ hk'] at e3;rw [if_neg hk'] at e4;exact r.inj k M p k' M' p' e1 e2 e3 e4 e5 e6 e7
 ·rw [AH.zf] at e2;by_cases hk:k=h.next
  ·subst hk;rw [Emb.qP] at e1;cases e1;exact hB
  ·rw [Emb.zh _ _ hk] at e1;rw [if_neg hk] at e2;exact r.own k M p e1 e2 e3
 ·refine ⟨hle,Nat.le_succ _,zA3 _,fun b M e hb=>?_,fun b M e n=>?_,by rw [hwr.size];exact zA3 _,fun k hk hq=>?_,fun b hb _=>?_,hwr.os,hwr.tape,hwr.output⟩
  ·rw [Emb.zh _ _ (by omega)] at e;exact e
  ·by_cases hb:b=h.next
   ·subst hb;rw [Emb.qP] at e;cases e;exact .inr ⟨a,M0,ha,rfl,hlow⟩
   ·rw [Emb.zh _ _ hb,n] at e;cases e
  ·refine hwr.other k fun q=>?_;have:=hq a M0 ha q.symm;have h3:(h.add o).low=h.low:=rfl;omega
  ·rw [AH.zf,if_neg (by omega)]
end Go.Proofs.Xx
namespace Go.Proofs.Xx
open Go
def Zn (tm:Array Value):Operand→Value
 | .tmp t=>tm.getD t undef
 | .const v=>v
 | .global g=>.pointer (some ⟨g,0,none⟩)
 | .func f=>.func (.func f) #[] #[]
theorem qF {f:Emb} {sz:Nat} {t:Tr Value} {tm:Array Value} (T:TR f sz t tm) {o:Operand} {v:Value} (h:zY t o=some v):VR f v (Zn tm o):=by
 cases o with
 | tmp k =>
  obtain ⟨v',h1,h2⟩:=T.2 k v h;simp only [Zn,zH2,h1,zH6];exact h2
 | const u =>
  simp only [zY] at h;split at h
  ·cases h;exact VR.plain f _ ‹_›
  ·cases h
 | global g=>cases h
 | func g=>cases h;exact .func g [] [] [] [] .nil .nil
theorem Jh {f:Emb} {sz:Nat} {t:Tr Value} {tm:Array Value} (T:TR f sz t tm):∀ {os:List Operand} {vs:List Value},jO t os=some vs→VRs f vs (os.map (Zn tm))
 | [],vs,h=>by cases h;exact .nil
 | o :: r,vs,h=>by
  simp only [jO] at h;split at h
  ·cases h
   exact .cons _ _ _ _ (qF T ‹_›) (Jh T ‹_›)
  ·cases h
section
variable {P:Program}
theorem Qr {t:TypeId} {b:Bool} (h:QF P t=some b) (w:World):(isAgg t).run P w = .ok b w:=by
 unfold QF at h;cases hu:P.underlying t with
 | none=>rw [hu] at h;cases h
 | some d =>
  rw [hu] at h;unfold isAgg;rw [zA5,run_underlying hu];cases d<;>(simp only at h;cases h;rfl)
theorem zG {t:TypeId} {n:Nat} (h:zU P t=some n) (w:World):(sizeOf t).run P w = .ok n w:=by
 unfold zU at h;cases hi:P.info? t with
 | none=>rw [hi] at h;cases h
 | some i=>rw [hi] at h;cases h;simp [sizeOf,typeInfo,hi]
theorem wL {t:TypeId} {z:Value} (h:Yo P t=some z) (w:World):(zeroValue t).run P w = .ok z w:=by
 unfold Yo at h;cases hi:P.info? t with
 | none=>rw [hi] at h;cases h
 | some i=>rw [hi] at h;simp only at h;simp [zeroValue,typeInfo,hi,h]
theorem qg5 {t:TypeId} {n:Nat} (h:QI P t=some n) (w:World):∃ i,P.info? t=some i∧i.bytes=n∧(typeInfo t).run P w = .ok i w:=by
 unfold QI at h;cases hi:P.info? t with
 | none=>rw [hi] at h;cases h
 | some i=>rw [hi] at h;cases h;exact ⟨i,rfl,rfl,by simp [typeInfo,hi]⟩
theorem jy {e:TypeId} {z:List Value} (h:zg P e=some z):∃ i v,P.info? e=some i∧i.zero=some v∧v.cells.toList=z∧i.size=z.length∧z.length≠0∧QT v=true:=by
 unfold zg at h;cases hi:P.info? e with
 | none=>rw [hi] at h;cases h
 | some i =>
  rw [hi] at h;simp only at h;cases hz:i.zero with
  | none=>rw [hz] at h;cases h
  | some v =>
   rw [hz] at h;simp only at h;split at h
   ·rename_i hc
    cases h
    simp only [zA8,Nat.beq_eq,zG3] at hc;have h2:v.cells.toList.length=i.size:=hc.1.2;refine ⟨i,v,rfl,hz,rfl,h2.symm,fun q=>?_,hc.1.1⟩;have:=hc.2;rw [← h2,q] at this;cases this
   ·cases h
theorem QQ {t e:TypeId} (h:qV P t=some e):P.underlying t=some (.slice e):=by
 unfold qV at h;split at h
 ·cases h;assumption
 ·cases h
theorem YO {h:AH} {a:Value} {b o:Nat} {c:List Value} {e:TypeId} {s:Option Nat} {r:Bool} (hc:Zh h a=some (b,o,c,e,s,r)):a = .pointer (some ⟨b,o,none⟩)∧h.get b=some (.cells c e s r):=by
 unfold Zh at hc;split at hc
 ·split at hc
  ·cases hc;exact ⟨rfl,by assumption⟩
  ·cases hc
 ·cases hc
theorem JD {c:List Value} {o n:Nat} {xs:List Value} (h:zq c o n=some xs):xs=(c.drop o).take n∧xs.length=n∧(n=0∨o+n≤c.length):=by
 unfold zq at h;simp only at h;split at h
 ·rename_i hb
  cases h
  have:=zA6 hb;refine ⟨rfl,this,?_⟩;rw [zA9,zB4] at this;omega
 ·cases h
theorem jJ (b o n:Nat):(⟨b,o,none⟩:Addr).add n=⟨b,o+n,none⟩:=by
 unfold Addr.add;split
 ·subst_vars;rfl
 ·rfl
theorem VR.zO {f:Emb} {b o:Nat} {v:Value} (h:VR f (.pointer (some ⟨b,o,none⟩)) v):∃ L,f b=some L∧v = .pointer (some ⟨L.blk,L.sh+o,none⟩):=by
 cases h with
 | pointer b o L hb=>exact ⟨L,hb,rfl⟩
theorem VR.jo {f:Emb} {b o len cap:Nat} {v:Value} (h:VR f (.slice (some ⟨b,o,none⟩) len cap) v) :
 ∃ L a,f b=some L∧v = .slice (some a) len (cap+L.slack)∧len≤cap∧(a=⟨L.blk,L.sh+o,none⟩∨(cap=0∧L.slack=0)):=by
 cases h with
 | slice b o a len cap L hb hl ho=>exact ⟨L,a,hb,rfl,hl,ho⟩
theorem ObjR.seg {f:Emb} {L:Loc} {w:World} {c:List Value} {e:TypeId} {s:Option Nat} {r:Bool} (h:ObjR f L w (.cells c e s r)) {o n:Nat} {xs:List Value} (ht:zq c o n=some xs) :
 ∃ xs',VRs f xs xs'∧xs'.length=n∧∀ (j:Nat) v,xs'[j]? = some v→w.cell? ⟨L.blk,L.sh+o+j,none⟩=some v:=by
 obtain ⟨cc,fr,h1,h2,h3,-⟩:=h;obtain ⟨rfl,hn,hb⟩:=JD ht;refine ⟨(cc.toList.drop (L.sh+o)).take n,VRs.qef ?_ fun i v hi=>?_,?_,fun j v hj=>?_⟩
 ·rw [hn,zA9,zB4,zC2];rcases hb with hb|hb<;>omega
 ·rw [zC7] at hi;split at hi
  ·rename_i hlt
   rw [zC3] at hi;obtain ⟨v',q1,q2⟩:=h3 (o+i) v hi;refine ⟨v',?_,q2⟩;rw [zC7,if_pos hlt,zC3,zC1,zF7];exact q1
  ·cases hi
 ·rw [zA9,zB4,zC2];rcases hb with hb|hb<;>omega
 ·rw [zC7] at hj;split at hj
  ·rw [zC3,zC1] at hj;simp only [World.cell?,h1];simpa using hj
  ·cases hj
theorem ObjR.cell {f:Emb} {L:Loc} {w:World} {c:List Value} {e:TypeId} {s:Option Nat} {r:Bool} (h:ObjR f L w (.cells c e s r)) {o:Nat} {v:Value} (ho:c[o]? = some v) :
 ∃ v',VR f v v'∧w.cell? ⟨L.blk,L.sh+o,none⟩=some v':=by
 obtain ⟨cc,fr,h1,h2,h3,-⟩:=h;obtain ⟨v',q1,q2⟩:=h3 o v ho;exact ⟨v',q2,by simp only [World.cell?,h1];simpa using q1⟩
theorem Qa {w:World} {b o n:Nat} {xs:List Value} (hl:xs.length=n) (h:∀ (j:Nat) v,xs[j]? = some v→w.cell? ⟨b,o+j,none⟩=some v) :
 (loadCells ⟨b,o,none⟩ n).run P w = .ok xs.toArray w:=by
 subst hl;exact run_loadCells_list w _ xs fun j v e=>by rw [jJ];exact h j v e
theorem WH [Glob] {B:Bs} {f:Emb} {h:AH} {w:World} (r:Rel B f h w) {t:TypeId} {a a' v:Value} (hl:Jp P t a h=some v) (ha:VR f a a') :
 ∃ v',(Instr.loadAt t a').run P w = .ok v' w∧VR f v v':=by
 unfold Jp at hl;split at hl
 ·rename_i b o c e s ro hc
  obtain ⟨rfl,hg⟩:=YO hc;obtain ⟨L,hL,rfl⟩:=ha.zO;have hO:=r.obj b L _ hL hg;split at hl
  ·rename_i hagg
   split at hl
   ·rename_i n hn
    split at hl
    ·rename_i xs hxs
     cases hl
     obtain ⟨xs',q1,q2,q3⟩:=hO.seg hxs;refine ⟨.agg xs'.toArray,?_,.agg _ _ q1⟩;simp only [Instr.loadAt,Instr.sureAddr,zA5,zB1,zA1,loadVar,Qr hagg,if_true,zG hn,Qa q2 q3]
    ·cases hl
   ·cases hl
  ·rename_i hagg
   obtain ⟨v',q1,q2⟩:=hO.cell hl;refine ⟨v',?_,q1⟩;simp only [Instr.loadAt,Instr.sureAddr,zA5,zB1,zA1,loadVar,Qr hagg,zD8,if_false,run_load,q2]
  ·cases hl
 ·cases hl
theorem jg (c:List Value) (o:Nat) (xs:List Value) (h:o+xs.length≤c.length) (i:Nat) :
 (splice c o xs)[i]? = if i<o then c[i]? else if i<o+xs.length then xs[i - o]? else c[i]?:=by
 unfold splice;rw [zF0,zA9];by_cases h1:i<o
 ·rw [if_pos (by omega),if_pos h1,zC7,if_pos h1]
 ·rw [if_neg (by omega),if_neg h1,zF0];have h2:min o c.length=o:=by omega
  rw [h2];by_cases h3:i<o+xs.length
  ·rw [if_pos (by omega),if_pos h3]
  ·rw [if_neg (by omega),if_neg h3,zC3];congr 1;omega
theorem zB (c:List Value) (o:Nat) (xs:List Value) (h:o+xs.length≤c.length):(splice c o xs).length=c.length:=by
 unfold splice;simp only [zB2,zA9,zB4];omega
theorem VRs.splice {f:Emb} {c c' xs xs':List Value} (h:VRs f c c') (hx:VRs f xs xs') (o:Nat):VRs f (Xx.splice c o xs) (Xx.splice c' o xs'):=by
 unfold Xx.splice;rw [hx.length];exact (h.take o).append (hx.append (h.drop _))
theorem one?_eq (v:Value):one? v=v.oneCell':=by cases v<;>rfl
theorem jR {b o:Nat} {e:TypeId} {fr:Nat×Nat}:∀ (vs:List Value) (i:Nat) (cc:Array Value) (w:World),w.heap[b]? = some (.cells cc e fr) →
 (vs.all one? = true)→o+i+vs.length≤cc.size→(∀ j,¬ (fr.1≤j∧j<fr.2)) →
 ∃ w',(storeCells ⟨b,o,none⟩ vs i).run P w = .ok () w'∧Wrote w w' b (.cells (Xx.splice cc.toList (o+i) vs).toArray e fr)
 | [],i,cc,w,hb,_,hl,_=>by
  refine ⟨w,rfl,?_⟩;have h1:Xx.splice cc.toList (o+i) []=cc.toList:=by unfold Xx.splice;simp
  rw [h1];exact Wrote.same (by simpa using hb)
 | v :: rest,i,cc,w,hb,h1,hl,hfr=>by
  simp only [List.all_cons,zA8] at h1;simp only [zC4] at hl;have hi:o+i<cc.size:=by omega
  have hcell:w.cell? ⟨b,o+i,none⟩=some cc[o+i]:=by simp [World.cell?,hb,hi]
  have hfro:w.frozen? ⟨b,o+i,none⟩=false:=by
   simp only [World.frozen?,hb];have:=hfr (o+i);cases hq:(decide (fr.1≤o+i) && decide (o+i<fr.2)) with
   | false=>rfl
   | true=>simp at hq;exact absurd hq this
  have hst:(store ((⟨b,o,none⟩:Addr).add i) v).run P w = .ok () (w.setRow b (cc.setIfInBounds (o+i) v)):=by
   rw [jJ,run_store P w _ v _ (by rw [← one?_eq];exact h1.1),hcell];simp [hfro,setCell_eq_setRow w b (o+i) cc e fr v hb]
  have hw1:Wrote w (w.setRow b (cc.setIfInBounds (o+i) v)) b (.cells (cc.setIfInBounds (o+i) v) e fr) :=
   ⟨setRow_heap w b cc _ e fr hb,fun j hj=>setRow_other w b j _ hj,by simp,rfl,rfl,rfl⟩
  obtain ⟨w2,q1,q2⟩:=jR (o:=o) rest (i+1) (cc.setIfInBounds (o+i) v) _ hw1.here h1.2 (by simp;omega) hfr;refine ⟨w2,?_,?_⟩
  ·simp only [storeCells,zA5,hst,zA1,q1]
  ·have:=hw1.trans q2;have heq:Xx.splice (cc.setIfInBounds (o+i) v).toList (o+(i+1)) rest=Xx.splice cc.toList (o+i) (v :: rest):=by
    apply List.ext_getElem?
    intro k;rw [jg _ _ _ (by simp;omega),jg _ _ _ (by simp;omega)];simp only [Array.toList_setIfInBounds,zC4];by_cases k1:k<o+i
    ·rw [if_pos (by omega),if_pos k1,List.getElem?_set_ne (by omega)]
    ·rw [if_neg k1];by_cases k2:k=o+i
     ·subst k2;rw [if_pos (by omega),if_pos (by omega),List.getElem?_set_self (by simpa using hi)];simp
     ·rw [if_neg (by omega)];by_cases k3:k<o+i+(rest.length+1)
      ·rw [if_pos (by omega),if_pos k3];rw [show k - (o+i)=(k - (o+(i+1)))+1 by omega];simp
      ·rw [if_neg (by omega),if_neg k3,List.getElem?_set_ne (by omega)]
   rw [heq] at this;exact this
theorem QS [Glob] {B:Bs} {f:Emb} {h h':AH} {w:World} (r:Rel B f h w) {b o:Nat} {c:List Value} {e:TypeId} {s:Option Nat} {xs xs':List Value} {L:Loc}
 (hL:f b=some L) (hg:h.get b=some (.cells c e s false)) (hp:putCells h b o c e s xs=some h') (hx:VRs f xs xs') :
 ∃ w',(storeCells ⟨L.blk,L.sh+o,none⟩ xs').run P w = .ok () w'∧Rel B f h' w'∧Turn f h w f h' w':=by
 unfold putCells at hp;split at hp
 ·rename_i hc
  cases hp
  simp only [zA8] at hc;have hle:=zB6 hc.2;have hO:=r.obj b L _ hL hg;obtain ⟨cc,fr,h1,h2,h3,h4,h5,h6⟩:=hO;obtain ⟨w',q1,q2⟩:=jR (P:=P) (o:=L.sh+o) xs' 0 cc w h1 (by rw [hx.one?];exact hc.1) (by rw [hx.length];omega) (h6 rfl);refine ⟨w',q1,?_⟩;refine r.put hL hg rfl q2 ?_ (fun _=>rfl);rw [Nat.add_zero] at q2;have hlen:L.sh+o+xs'.length≤cc.toList.length:=by
   have e1:cc.toList.length=cc.size:=zC2;have e2:=hx.length;omega
  refine ⟨_,fr,q2.here,?_,fun i v hi=>?_,fun hs=>?_,fun k hk=>?_,h6⟩
  ·simp only [zE5,zB _ _ _ hlen,zC2,zB _ _ _ hle];exact h2
  ·rw [jg _ _ _ hle] at hi;simp only [List.getElem?_toArray,jg _ _ _ hlen,hx.length];by_cases i1:i<o
   ·rw [if_pos i1] at hi;rw [if_pos (by omega),zC1];exact h3 i v hi
   ·rw [if_neg i1] at hi;by_cases i2:i<o+xs.length
    ·rw [if_pos i2] at hi;rw [if_neg (by omega),if_pos (by omega)];obtain ⟨v',p1,p2⟩:=hx.get _ _ hi;exact ⟨v',by rw [show L.sh+i - (L.sh+o)=i - o by omega];exact p1,p2⟩
    ·rw [if_neg i2] at hi;rw [if_neg (by omega),if_neg (by omega),zC1];exact h3 i v hi
  ·obtain ⟨p1,p2⟩:=h4 hs;refine ⟨p1,fun q=>?_⟩;obtain ⟨p3,p4⟩:=p2 rfl;refine ⟨p3,?_⟩;simp only [zE5,zB _ _ _ hlen,zC2,zB _ _ _ hle];exact p4
  ·simp only [zE5,zB _ _ _ hlen,zC2,zB _ _ _ hle];exact h5 k hk
 ·cases hp
theorem Gs [Glob] {B:Bs} {f:Emb} {h h':AH} {w:World} (r:Rel B f h w) {t:TypeId} {a a' v v':Value} (hl:Xn P t a v h=some h') (ha:VR f a a') (hv:VR f v v') :
 ∃ w',(Instr.storeAt t a' v').run P w = .ok () w'∧Rel B f h' w'∧Turn f h w f h' w':=by
 unfold Xn at hl;split at hl
 ·rename_i b o c e s hc
  obtain ⟨rfl,hg⟩:=YO hc;obtain ⟨L,hL,rfl⟩:=ha.zO;split at hl
  ·rename_i n hn
   split at hl
   ·rename_i hb
    obtain ⟨w',q1,q2⟩:=QS (P:=P) r hL hg hl hv.cells;refine ⟨w',?_,q2⟩;have hsz:v'.cells.size=n:=by
     have h1:=hv.cells.length;have h2:=zA6 hb;rw [zC2] at h1;omega
    simp only [Instr.storeAt,Instr.sureAddr,zA5,zB1,zA1,storeVar,zG hn,ne_eq,hsz,not_true,if_false,q1]
   ·cases hl
  ·cases hl
 ·cases hl
theorem ObjR.fresh {f:Emb} {w w':World} {c c':List Value} {e:TypeId} (hp:Pushed w w' (.cells c'.toArray e)) (hc:VRs f c c') (ro:Bool):ObjR f ⟨w.heap.size,0,0⟩ w' (.cells c e none ro):=by
 refine ⟨c'.toArray,(0,0),hp.new,by simp [hc.length],fun i v hi=>?_,fun _=>⟨rfl,fun _=>⟨rfl,by simp [hc.length]⟩⟩,(fun k hk=>by cases hk),(fun _ i q=>by simp at q)⟩;obtain ⟨v',q1,q2⟩:=hc.get i v hi;exact ⟨v',by simpa using q1,q2⟩
theorem Rel.new [Glob] {B:Bs} {f:Emb} {h:AH} {w w':World} (r:Rel B f h w) {c c':List Value} {e:TypeId} (hc:VRs f c c') (hp:Pushed w w' (.cells c'.toArray e)) :
 Rel B (f.put h.next ⟨w.heap.size,0,0⟩) (h.add (.cells c e none false)) w'∧Turn f h w (f.put h.next ⟨w.heap.size,0,0⟩) (h.add (.cells c e none false)) w' :=
 r.add hp (ObjR.fresh hp (hc.mono (r.QW _)) false)
theorem zV (w:World) (o:Obj):Pushed w { w with heap:=w.heap.push o } o:=⟨rfl,rfl,rfl,rfl⟩
theorem Va [Glob] {B:Bs} {f:Emb} {h:AH} {w:World} (r:Rel B f h w) (e:TypeId) {v v':Value} (hv:VR f v v') :
 ∃ f' w',(newVar e v').run P w = .ok ⟨w.heap.size,0,none⟩ w'∧Rel B f' (Gv e v.cells.toList h).2 w'∧Turn f h w f' (Gv e v.cells.toList h).2 w'∧VR f' (Gv e v.cells.toList h).1 (.pointer (some ⟨w.heap.size,0,none⟩)):=by
 have hp:=zV w (.cells v'.cells.toList.toArray e);obtain ⟨q1,q2⟩:=r.new hv.cells hp;refine ⟨_,_,?_,q1,q2,?_⟩
 ·simp only [newVar,newRow,zA5,run_newObj,zA1,Array.toArray_toList];rfl
 ·exact VR.pointer h.next 0 ⟨w.heap.size,0,0⟩ (Emb.qP _ _ _)
end
end Go.Proofs.Xx
