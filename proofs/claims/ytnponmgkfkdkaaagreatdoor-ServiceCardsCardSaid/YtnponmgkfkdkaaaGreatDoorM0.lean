/-
  A store of values keyed by numbers,as a binary tree;the abstract memory that the checked run of a program works on.
-/
import Derived.Calls
import GoSem.Dispatch
import Derived.Below
import Derived.Laws.Tables
import Derived.Laws.Cells
import Derived.Laws.NewBlocks
import Derived.Laws.Entries
set_option linter.unusedSectionVars false
set_option linter.unusedSimpArgs false
set_option linter.unusedVariables false
namespace Go.Proofs.Xx
open Go
abbrev zA0:=@Int.toNat_natCast
abbrev zA1:=@Result.andThen_ok
abbrev zA2:=@List.getD_eq_getElem?_getD
abbrev zA3:=@Nat.le_refl
abbrev zA4:=@List.getElem?_eq_getElem
abbrev zA5:=@Sem.run_bind
abbrev zA6:=@Nat.eq_of_beq_eq_true
abbrev zA7:=@Nat.lt_or_ge
abbrev zA8:=@Bool.and_eq_true
abbrev zA9:=@List.length_take
abbrev zB0:=@Nat.zero_le
abbrev zB1:=@Sem.run_pure
abbrev zB2:=@List.length_append
abbrev zB3:=@Nat.ble_eq_true_of_le
abbrev zB4:=@List.length_drop
abbrev zB5:=@List.mem_singleton
abbrev zB6:=@Nat.le_of_ble_eq_true
abbrev zB7:=@Nat.not_lt_zero
abbrev zB8:=@List.mem_append
abbrev zB9:=@Array.getElem?_eq_some_iff
abbrev zC0:=@List.nil_append
abbrev zC1:=@Array.getElem?_toList
abbrev zC2:=@Array.length_toList
abbrev zC3:=@List.getElem?_drop
abbrev zC4:=@List.length_cons
abbrev zC5:=@List.length_map
abbrev zC6:=@List.cons_append
abbrev zC7:=@List.getElem?_take
abbrev zC8:=@List.all_eq_true
abbrev zC9:=@List.map_append
abbrev zD0:=@Nat.le_trans
abbrev zD1:=@List.filter_append
abbrev zD2:=@List.pairwise_iff_getElem
abbrev zD3:=@Nat.mul_le_mul_right
abbrev zD4:=@List.take_length
abbrev zD5:=@List.length_singleton
abbrev zD6:=@List.getElem?_eq_some_iff
abbrev zD7:=@List.append_nil
abbrev zD8:=@List.filter_cons
abbrev zD9:=@Bool.false_eq_true
abbrev zE0:=@List.mem_filter
abbrev zE1:=@Nat.add_mul
abbrev zE2:=@Array.getElem?_eq_getElem
abbrev zE3:=@List.mem_range
abbrev zE4:=@Nat.lt_of_lt_of_le
abbrev zE5:=@Nat.min_eq_left
abbrev zE6:=@List.size_toArray
abbrev zE7:=@Nat.lt_trichotomy
abbrev zE8:=@List.mem_cons
abbrev zE9:=@List.length_eq_zero_iff
abbrev zF0:=@List.getElem?_append
abbrev zF1:=@List.mem_map
abbrev zF2:=@List.append_assoc
abbrev zF3:=@Classical.not_not
abbrev zF4:=@Nat.eq_zero_or_pos
abbrev zF5:=@List.length_set
abbrev zF6:=@List.toList_toArray
abbrev zF7:=@Nat.add_assoc
abbrev zF8:=@List.take_of_length_le
abbrev zF9:=@Bool.and_self
abbrev zG0:=@Nat.lt_succ_self
abbrev zG1:=@Nat.zero_add
abbrev zG2:=@List.flatMap_cons
abbrev zG3:=@Bool.not_eq_true'
abbrev zG4:=@List.nodup_append
abbrev zG5:=@List.getElem?_eq_none
abbrev zG6:=@Nat.sub_self
abbrev zG7:=@List.drop_eq_getElem_cons
abbrev zG8:=@Bool.or_eq_true
abbrev zG9:=@List.mem_flatMap
abbrev zH0:=@List.take_append_drop
abbrev zH1:=@Bool.and_eq_false_iff
abbrev zH2:=@Array.getD_eq_getD_getElem?
abbrev zH3:=@Int.eq_ofNat_of_zero_le
abbrev zH4:=@List.getElem?_cons_succ
abbrev zH5:=@List.pairwise_cons
abbrev zH6:=@Option.getD_some
abbrev zH7:=@List.getElem?_append_left
abbrev zH8:=@List.getElem?_map
inductive Tr (α:Type) where
 | e
 | n (v:Option α) (l r:Tr α)
def Tr.VH {α:Type}:Nat→Tr α→Nat→Option α
 | _,.e,_=>none
 | 0,.n v _ _,_=>v
 | f+1,.n v l r,k =>
  match Nat.beq k 0 with
  | true=>v
  | false =>
   match Nat.beq (k % 2) 1 with
   | true=>Tr.VH f l (k / 2)
   | false=>Tr.VH f r (k / 2 - 1)
def Tr.WC {α:Type}:Nat→Tr α→Nat→α→Tr α
 | 0,.e,_,a=>.n (some a) .e .e
 | 0,.n _ l r,_,a=>.n (some a) l r
 | f+1,.e,k,a =>
  match Nat.beq k 0 with
  | true=>.n (some a) .e .e
  | false =>
   match Nat.beq (k % 2) 1 with
   | true=>.n none (Tr.WC f .e (k / 2) a) .e
   | false=>.n none .e (Tr.WC f .e (k / 2 - 1) a)
 | f+1,.n v l r,k,a =>
  match Nat.beq k 0 with
  | true=>.n (some a) l r
  | false =>
   match Nat.beq (k % 2) 1 with
   | true=>.n v (Tr.WC f l (k / 2) a) r
   | false=>.n v l (Tr.WC f r (k / 2 - 1) a)
def Tr.get {α:Type} (t:Tr α) (k:Nat):Option α:=Tr.VH k t k
def Tr.set {α:Type} (t:Tr α) (k:Nat) (a:α):Tr α:=Tr.WC k t k a
theorem Tr.Yq {α:Type} (f k:Nat):Tr.VH f (Tr.e:Tr α) k=none:=by cases f<;>rfl
theorem Tr.kG {α:Type} (t:Tr α):∀ (f g k:Nat),k≤f→k≤g→Tr.VH f t k=Tr.VH g t k:=by
 induction t with
 | e=>intro f g k _ _;rw [Tr.Yq,Tr.Yq]
 | n v l r ihl ihr =>
  intro f g k hf hg;cases k with
  | zero=>cases f<;>cases g<;>rfl
  | succ k =>
   cases f with
   | zero=>omega
   | succ f =>
    cases g with
    | zero=>omega
    | succ g =>
     simp only [Tr.VH];rw [ihl f g _ (by omega) (by omega),ihr f g _ (by omega) (by omega)]
theorem Tr.qcH {α:Type}:∀ (f:Nat) (t:Tr α) (k j:Nat) (a:α),k≤f→j≤f→Tr.VH f (Tr.WC f t k a) j=if j=k then some a else Tr.VH f t j:=by
 intro f;induction f with
 | zero =>
  intro t k j a hk hj;obtain rfl:k=0:=by omega
  obtain rfl:j=0:=by omega
  cases t<;>rfl
 | succ f ih =>
  intro t k j a hk hj;cases t with
  | e =>
   simp only [Tr.WC];by_cases k0:k=0
   ·subst k0;simp only [Nat.beq_eq_true_eq,Nat.beq];by_cases j0:j=0
    ·subst j0;rfl
    ·have hj0:Nat.beq j 0=false:=by cases j with|zero=>exact absurd rfl j0|succ j=>rfl
     simp only [Tr.VH,hj0,if_neg j0];split<;>simp [Tr.Yq]
   ·have hk0:Nat.beq k 0=false:=by cases k with|zero=>exact absurd rfl k0|succ j=>rfl
    simp only [hk0];by_cases j0:j=0
    ·subst j0;have hne:¬ 0=k:=by omega
     rw [if_neg hne];split<;>rfl
    ·have hj0:Nat.beq j 0=false:=by cases j with|zero=>exact absurd rfl j0|succ j=>rfl
     by_cases kp:k % 2=1<;>by_cases jp:j % 2=1 <;>
      simp only [show Nat.beq (k % 2) 1=decide (k % 2=1) from by rw [Bool.eq_iff_iff];simp,show Nat.beq (j % 2) 1=decide (j % 2=1) from by rw [Bool.eq_iff_iff];simp,kp,jp,decide_true,decide_false,Tr.VH,hj0,Tr.Yq]
     ·rw [ih .e _ _ _ (by omega) (by omega),Tr.Yq];congr 1;rw [eq_iff_iff];omega
     ·rw [if_neg (by omega)]
     ·rw [if_neg (by omega)]
     ·rw [ih .e _ _ _ (by omega) (by omega),Tr.Yq];congr 1;rw [eq_iff_iff];omega
  | n v l r =>
   simp only [Tr.WC];by_cases k0:k=0
   ·subst k0;simp only [Nat.beq];by_cases j0:j=0
    ·subst j0;rfl
    ·have hj0:Nat.beq j 0=false:=by cases j with|zero=>exact absurd rfl j0|succ j=>rfl
     simp only [Tr.VH,hj0,if_neg j0]
   ·have hk0:Nat.beq k 0=false:=by cases k with|zero=>exact absurd rfl k0|succ j=>rfl
    simp only [hk0];by_cases j0:j=0
    ·subst j0;have hne:¬ 0=k:=by omega
     rw [if_neg hne];split<;>rfl
    ·have hj0:Nat.beq j 0=false:=by cases j with|zero=>exact absurd rfl j0|succ j=>rfl
     by_cases kp:k % 2=1<;>by_cases jp:j % 2=1 <;>
      simp only [show Nat.beq (k % 2) 1=decide (k % 2=1) from by rw [Bool.eq_iff_iff];simp,show Nat.beq (j % 2) 1=decide (j % 2=1) from by rw [Bool.eq_iff_iff];simp,kp,jp,decide_true,decide_false,Tr.VH,hj0]
     ·rw [ih l _ _ _ (by omega) (by omega)];congr 1;rw [eq_iff_iff];omega
     ·rw [if_neg (by omega)]
     ·rw [if_neg (by omega)]
     ·rw [ih r _ _ _ (by omega) (by omega)];congr 1;rw [eq_iff_iff];omega
theorem Tr.qcd {α:Type}:∀ (f g:Nat) (t:Tr α) (k:Nat) (a:α),k≤f→k≤g→Tr.WC f t k a=Tr.WC g t k a:=by
 intro f;induction f with
 | zero =>
  intro g t k a hf hg;obtain rfl:k=0:=by omega
  cases g<;>cases t<;>rfl
 | succ f ih =>
  intro g t k a hf hg;cases g with
  | zero =>
   obtain rfl:k=0:=by omega
   cases t<;>rfl
  | succ g =>
   by_cases k0:k=0
   ·subst k0;cases t<;>rfl
   ·cases t with
    | e=>simp only [Tr.WC];rw [ih g .e (k / 2) a (by omega) (by omega),ih g .e (k / 2 - 1) a (by omega) (by omega)]
    | n v l r=>simp only [Tr.WC];rw [ih g l (k / 2) a (by omega) (by omega),ih g r (k / 2 - 1) a (by omega) (by omega)]
theorem Tr.QM {α:Type} (t:Tr α) (k j:Nat) (a:α):(t.set k a).get j=if j=k then some a else t.get j:=by
 unfold Tr.get Tr.set;rw [Tr.kG _ j (max j k) j (zA3 _) (by omega),Tr.qcd k (max j k) t k a (zA3 _) (by omega),
  Tr.qcH _ _ _ _ _ (by omega) (by omega),Tr.kG t j (max j k) j (zA3 _) (by omega)]
theorem Tr.get_set_same {α:Type} (t:Tr α) (k:Nat) (a:α):(t.set k a).get k=some a:=by rw [Tr.QM,if_pos rfl]
theorem Tr.qgP {α:Type} (t:Tr α) {k j:Nat} (a:α) (h:j≠k):(t.set k a).get j=t.get j:=by rw [Tr.QM,if_neg h]
theorem Tr.kF {α:Type} (k:Nat):(Tr.e:Tr α).get k=none:=Tr.Yq _ _
end Go.Proofs.Xx
namespace Go.Proofs.Xx
open Go
inductive Qp where
 | cells (c:List Value) (elem:TypeId) (slk:Option Nat) (ro:Bool)
 | loop (state:LoopState) (pending:Option Code) (sz:Nat) (tmps:Tr Value) (params:List Tmp) (assign body:Code)
 | map (es:List (Value×Value×Nat)) (clock:Nat)
 | dead
structure AH where
 tr:Tr Qp
 next:Nat
 low:Nat
def AH.get (h:AH) (b:Nat):Option Qp:=h.tr.get b
def AH.add (h:AH) (o:Qp):AH:={ tr:=h.tr.set h.next o,next:=h.next+1,low:=h.low }
def lowest (a b:Nat):Nat:=match Nat.ble a b with|true=>a|false=>b
def AH.put (h:AH) (b:Nat) (o:Qp):AH:={ tr:=h.tr.set b o,next:=h.next,low:=lowest h.low b }
def jU:Value→Bool
 | .bool _|.int _ _|.string _|.pointer none|.slice none 0 0|.map none|.nilFunc|.nilIface|.float _ _=>true
 | .func (.func _) first captured=>first.isEmpty && captured.isEmpty
 | _=>false
def QJ:Value→Bool
 | .agg cs=>cs.toList.all jU
 | v=>jU v
def one? : Value→Bool
 | .agg _|.tuple _=>false
 | _=>true
def splice (c:List Value) (o:Nat) (xs:List Value):List Value:=c.take o ++ (xs ++ c.drop (o+xs.length))
def Q3 (P:Program) (t:TypeId):Option Bool :=
 match P.underlying t with
 | some (.struct _)|some (.array _ _)=>some true
 | some _=>some false
 | none=>none
def zI (P:Program) (t:TypeId):Option Nat:=match P.info? t with|some i=>some i.size|none=>none
def Q8 (h:AH):Value→Option (Nat×Nat×List Value×TypeId×Option Nat×Bool)
 | .pointer (some ⟨b,o,none⟩)=>match h.get b with
  | some (.cells c e s r)=>some (b,o,c,e,s,r)
  | _=>none
 | _=>none
def zn (c:List Value) (o n:Nat):Option (List Value) :=
 let xs:=(c.drop o).take n
 match Nat.beq xs.length n with
 | true=>some xs
 | false=>none
def Z8 (P:Program) (t:TypeId) (a:Value) (h:AH):Option Value :=
 match Q8 h a with
 | some (_,o,c,_,_,_) =>
  match Q3 P t with
  | some true=>match zI P t with
   | some n=>match zn c o n with
    | some xs=>some (.agg xs.toArray)
    | none=>none
   | none=>none
  | some false=>c[o]?
  | none=>none
 | none=>none
def putCells (h:AH) (b o:Nat) (c:List Value) (e:TypeId) (s:Option Nat) (xs:List Value):Option AH :=
 match xs.all one? && Nat.ble (o+xs.length) c.length with
 | true=>some (h.put b (.cells (splice c o xs) e s false))
 | false=>none
def JR (P:Program) (t:TypeId) (a v:Value) (h:AH):Option AH :=
 match Q8 h a with
 | some (b,o,c,e,s,false)=>match zI P t with
  | some n=>match Nat.beq v.cells.toList.length n with
   | true=>putCells h b o c e s v.cells.toList
   | false=>none
  | none=>none
 | _=>none
def X5 (P:Program) (t:TypeId):Option Value:=match P.info? t with|some i=>i.zero|none=>none
def Gn (e:TypeId) (c:List Value) (h:AH):Value×AH:=(.pointer (some ⟨h.next,0,none⟩),h.add (.cells c e none false))
def Y2 (place:Nat→Option (Nat×Nat)) (c:List Value):List (Nat×Value)→Option (List Value)
 | []=>some c
 | (i,v) :: rest =>
  match place i with
  | none=>none
  | some (off,size) =>
   match Nat.beq v.cells.toList.length size && Nat.ble (off+size) c.length with
   | true=>Y2 place (splice c off v.cells.toList) rest
   | false=>none
def WW (P:Program):List Field→Option (List (Nat×Nat))
 | []=>some []
 | f :: fs=>match zI P f.type,WW P fs with
  | some n,some r=>some ((f.offset,n) :: r)
  | _,_=>none
def qbl (P:Program) (t:TypeId) (parts:List (Nat×Value)):Option Value :=
 match X5 P t with
 | some z=>match QJ z with
  | true=>match P.underlying t with
   | some (.struct fs)=>match WW P fs.toList with
    | some ps=>match Y2 (fun i=>ps[i]?) z.cells.toList parts with
     | some c=>some (.agg c.toArray)
     | none=>none
    | none=>none
   | some (.array _ e)=>match zI P e with
    | some n=>match Y2 (fun i=>some (i*n,n)) z.cells.toList parts with
     | some c=>some (.agg c.toArray)
     | none=>none
    | none=>none
   | _=>none
  | false=>none
 | none=>none
def zg (z:List Value):Nat→List Value
 | 0=>[]
 | k+1=>z ++ zg z k
def qQ (P:Program) (t:TypeId):Option TypeId:=match P.underlying t with|some (.slice e)=>some e | _=>none
def qV (P:Program) (e:TypeId):Option (List Value) :=
 match P.info? e with
 | some i=>match i.zero with
  | some z=>match QJ z && Nat.beq z.cells.toList.length i.size && !Nat.beq i.size 0 with
   | true=>some z.cells.toList
   | false=>none
  | none=>none
 | none=>none
def jr (P:Program) (t:TypeId) (len:Nat) (parts:List (Nat×Value)) (h:AH):Option (Value×AH) :=
 match qQ P t with
 | some e=>match qV P e with
  | some z=>match Nat.ble (len*z.length) 16777216 with
   | true=>match Y2 (fun i=>some (i*z.length,z.length)) (zg z len) parts with
    | some c=>some (.slice (some ⟨h.next,0,none⟩) len len,h.add (.cells c e none false))
    | none=>none
   | false=>none
  | none=>none
 | none=>none
def Qh (P:Program) (t:TypeId):Option Nat:=match P.info? t with|some i=>some i.bytes|none=>none
def QA (P:Program) (t:TypeId) (len cap:Value) (h:AH):Option (Value×AH) :=
 match len,cap with
 | .int .i64 (.ofNat l),.int .i64 (.ofNat c)=>match qQ P t with
  | some e=>match qV P e,Qh P e with
   | some z,some by_=>match Nat.ble l c && Nat.ble (c*(by_+1)) 140737488355328 with
    | true=>some (.slice (some ⟨h.next,0,none⟩) l c,h.add (.cells (zg z c) e none false))
    | false=>none
   | _,_=>none
  | none=>none
 | _,_=>none
def qbj (P:Program) (t:TypeId) (x:Value) (f:Nat):Option Value :=
 match x,P.underlying t with
 | .agg cs,some (.struct fs)=>match fs[f]? with
  | some fd=>match Q3 P fd.type with
   | some true=>match zI P fd.type with
    | some n=>match zn cs.toList fd.offset n with
     | some xs=>some (.agg xs.toArray)
     | none=>none
    | none=>none
   | some false=>cs.toList[fd.offset]?
   | none=>none
  | none=>none
 | _,_=>none
def JU (P:Program) (t:TypeId) (x:Value) (f:Nat):Option Value :=
 match x,P.underlying t with
 | .pointer (some ⟨b,o,none⟩),some (.struct fs)=>match fs[f]? with
  | some fd=>match zI P fd.type with
   | some (_+1)=>some (.pointer (some ⟨b,o+fd.offset,none⟩))
   | _=>none
  | none=>none
 | _,_=>none
def jy (P:Program) (t:TypeId) (x i:Value):Option Value :=
 match x,i,P.underlying t with
 | .pointer (some ⟨b,o,none⟩),.int _ (.ofNat k),some (.array len e)=>match Nat.blt k len,zI P e with
  | true,some n=>some (.pointer (some ⟨b,o+k*n,none⟩))
  | _,_=>none
 | .slice (some ⟨b,o,none⟩) len _,.int _ (.ofNat k),some (.slice e)=>match Nat.blt k len,zI P e with
  | true,some n=>some (.pointer (some ⟨b,o+k*n,none⟩))
  | _,_=>none
 | _,_,_=>none
def yS (P:Program) (t:TypeId) (x i:Value):Option Value :=
 match x,i,P.underlying t with
 | .string s,.int _ (.ofNat k),some .string=>match s.data.toList[k]? with
  | some b=>some (.int .u8 b.toNat)
  | none=>none
 | .agg cs,.int _ (.ofNat k),some (.array len e)=>match Nat.blt k len,Q3 P e,zI P e with
  | true,some true,some n=>match zn cs.toList (k*n) n with
   | some xs=>some (.agg xs.toArray)
   | none=>none
  | true,some false,some n=>cs.toList[k*n]?
  | _,_,_=>none
 | _,_,_=>none
def zK (x y:ByteArray):Bool:=x.data.toList == y.data.toList
def cmpInt (op:BinOp) (x y:Int):Option Bool :=
 match op with
 | .eql=>some (x == y)
 | .neq=>some (x != y)
 | .lss=>some (decide (x<y))
 | .leq=>some (decide (x≤y))
 | .gtr=>some (decide (x > y))
 | .geq=>some (decide (x≥y))
 | _=>none
def qjr:Value→Value→Option Bool
 | .bool a,.bool b=>some (a == b)
 | .int k a,.int k' b=>match decide (k=k') with|true=>some (a == b)|false=>none
 | .string a,.string b=>some (zK a b)
 | _,_=>none
def pairT (P:Program) (t:TypeId):Bool :=
 match P.underlying t with
 | some (.struct fs)=>match fs.toList with
  | [f,g]=>match P.underlying f.type,P.underlying g.type,Q3 P f.type,Q3 P g.type with
   | some (.int .i64),some (.int .i64),some false,some false=>Nat.beq f.offset 0 && (Nat.beq g.offset 1 && (decide (f.name ≠ "_") && (decide (g.name ≠ "_") && (!P.stoodInHeld t && !P.eqGuardType P.depth t))))
   | _,_,_,_=>false
  | _=>false
 | _=>false
def PQ (P:Program):List Field→Nat→Bool
 | [],_=>true
 | f :: fs,i=>(match Q3 P f.type with|some false=>true | _=>false) && (Nat.beq f.offset i && (decide (f.name ≠ "_") && PQ P fs (i+1)))
def qbG (P:Program) (t:TypeId):Bool :=
 match P.underlying t with
 | some (.struct fs)=>PQ P fs.toList 0 && (!P.stoodInHeld t && !P.eqGuardType P.depth t)
 | _=>false
def qek (d:Option TypeDesc) (a b:Value):Option Bool :=
 match d,a,b with
 | some .bool,.bool x,.bool y=>some (x == y)
 | some (.int _),.int k x,.int k' y=>match decide (k=k') with|true=>some (x == y)|false=>none
 | some .string,.string x,.string y=>some (zK x y)
 | _,_,_=>none
def ZZ (P:Program):List Field→List Value→List Value→Option Bool
 | [],[],[]=>some true
 | f :: fs,a :: r,b :: s=>match qek (P.underlying f.type) a b,ZZ P fs r s with
  | some x,some y=>some (x && y)
  | _,_=>none
 | _,_,_=>none
def Xt (P:Program) (t:TypeId) (a b:List Value):Option Bool :=
 match P.underlying t,qbG P t with
 | some (.struct fs),true=>ZZ P fs.toList a b
 | _,_=>none
def jP (P:Program) (op:BinOp) (t:TypeId) (x y:Value):Option Value :=
 match x,y with
 | .int k a,.int k' b =>
  match op with
  | .shl=>match decide (b<0) with|true=>none|false=>some (.int k (k.wrap (a*2 ^ (min b.toNat k.bits))))
  | .shr=>match decide (b<0) with|true=>none|false=>some (.int k (a.fdiv (2 ^ (min b.toNat k.bits))))
  | _=>match decide (k=k') with
   | false=>none
   | true=>match op with
    | .add=>some (.int k (k.wrap (a+b)))
    | .sub=>some (.int k (k.wrap (a - b)))
    | .mul=>some (.int k (k.wrap (a*b)))
    | .quo=>match decide (b=0) with|true=>none|false=>some (.int k (k.wrap (a.tdiv b)))
    | .rem=>match decide (b=0) with|true=>none|false=>some (.int k (a.tmod b))
    | .and=>some (.int k (k.wrap (BitVec.ofInt k.bits a &&& BitVec.ofInt k.bits b).toNat))
    | .or=>some (.int k (k.wrap (BitVec.ofInt k.bits a ||| BitVec.ofInt k.bits b).toNat))
    | .xor=>some (.int k (k.wrap (BitVec.ofInt k.bits a ^^^ BitVec.ofInt k.bits b).toNat))
    | .andNot=>some (.int k (k.wrap (BitVec.ofInt k.bits a &&& ~~~BitVec.ofInt k.bits b).toNat))
    | op=>match cmpInt op a b with|some r=>some (.bool r)|none=>none
 | .string a,.string b =>
  match op with
  | .add=>match Nat.ble (a.data.toList.length+b.data.toList.length) 4611686018427387904 with
   | true=>some (.string ⟨(a.data.toList ++ b.data.toList).toArray⟩)
   | false=>none
  | .eql=>some (.bool (zK a b))
  | .neq=>some (.bool !(zK a b))
  | .lss=>some (.bool (Op.bytesLess a.data.toList b.data.toList))
  | .leq=>some (.bool (Op.bytesLess a.data.toList b.data.toList || zK a b))
  | .gtr=>some (.bool !(Op.bytesLess a.data.toList b.data.toList || zK a b))
  | .geq=>some (.bool !(Op.bytesLess a.data.toList b.data.toList))
  | _=>none
 | .bool a,.bool b=>match P.underlying t,op with
  | some .bool,.eql=>some (.bool (a == b))
  | some .bool,.neq=>some (.bool !(a == b))
  | _,_=>none
 | .slice a _ _,.slice none 0 0=>match P.underlying t,op with
  | some (.slice _),.eql=>some (.bool a.isNone)
  | some (.slice _),.neq=>some (.bool !a.isNone)
  | _,_=>none
 | .pointer a,.pointer none=>match P.underlying t,op with
  | some (.pointer _),.eql=>some (.bool a.isNone)
  | some (.pointer _),.neq=>some (.bool !a.isNone)
  | _,_=>none
 | .pointer (some ⟨b,o,none⟩),.pointer (some ⟨b',o',none⟩)=>match P.underlying t,op with
  | some (.pointer e),.eql=>match Nat.beq b b',zI P e with
   | true,some (_+1)=>some (.bool (Nat.beq o o'))
   | _,_=>none
  | some (.pointer e),.neq=>match Nat.beq b b',zI P e with
   | true,some (_+1)=>some (.bool !(Nat.beq o o'))
   | _,_=>none
  | _,_=>none
 | .agg a,.agg b=>match op,a.toList,b.toList with
  | .eql,[.int .i64 a0,.int .i64 a1],[.int .i64 b0,.int .i64 b1]=>match pairT P t with
   | true=>some (.bool (a0 == b0 && a1 == b1))
   | false=>none
  | .eql,xs,ys=>match Xt P t xs ys with
   | some r=>some (.bool r)
   | none=>none
  | .neq,xs,ys=>match Xt P t xs ys with
   | some r=>some (.bool !r)
   | none=>none
  | _,_,_=>none
 | .map a,.map none=>match P.underlying t,op with
  | some (.map _ _),.eql=>some (.bool a.isNone)
  | some (.map _ _),.neq=>some (.bool !a.isNone)
  | _,_=>none
 | _,_=>none
def aUn (op:UnOp) (x:Value):Option Value :=
 match op,x with
 | .not,.bool b=>some (.bool !b)
 | .neg,.int k n=>some (.int k (k.wrap (0 - n)))
 | _,_=>none
def zY (P:Program) (src dst:TypeId) (x:Value):Option Value :=
 match P.underlying src,P.underlying dst,x with
 | some (.int _),some (.int k),.int _ n=>some (.int k (k.wrap n))
 | some .string,some .string,.string s=>some (.string s)
 | some (.int _),some .string,.int _ n=>some (.string (Utf8.encode n))
 | _,_,_=>none
def byteOf? : Value→Option UInt8
 | .int .u8 (.ofNat n)=>some (UInt8.ofNat n)
 | _=>none
def bytesOf? : List Value→Option (List UInt8)
 | []=>some []
 | v :: r=>match byteOf? v,bytesOf? r with
  | some b,some s=>some (b :: s)
  | _,_=>none
def zS (P:Program) (src dst:TypeId) (x:Value) (h:AH):Option Value :=
 match P.underlying src,P.underlying dst,x with
 | some (.slice e),some .string,.slice none 0 0=>match P.underlying e with
  | some (.int .u8)=>some (.string ⟨#[]⟩)
  | _=>none
 | some (.slice e),some .string,.slice (some ⟨b,o,none⟩) len _=>match P.underlying e with
  | some (.int .u8)=>match h.get b with
   | some (.cells c _ _ _)=>match zn c o len with
    | some xs=>match bytesOf? xs with
     | some s=>some (.string ⟨s.toArray⟩)
     | none=>none
    | none=>none
   | _=>none
  | _=>none
 | _,_,_=>none
def jb (P:Program) (src dst:TypeId) (x:Value) (h:AH):Option Value :=
 match P.underlying src,P.underlying dst,x with
 | some (.pointer t),some .unsafePointer,.pointer (some ⟨b,o,none⟩)=>match h.get b,zI P t with
  | some (.cells c _ _ _),some (_+1)=>match Nat.blt o c.length with
   | true=>some (.pointer (some ⟨b,o,none⟩))
   | false=>none
  | _,_=>none
 | some .unsafePointer,some (.pointer u),.pointer (some ⟨b,o,none⟩)=>match h.get b,zI P u with
  | some (.cells c e none false),some (_+1)=>match liesAt P P.depth e (c.length / P.cellsOf e) o u 1 with
   | true=>some (.pointer (some ⟨b,o,none⟩))
   | false=>none
  | _,_=>none
 | _,_,_=>none
def zi (x:Option Value) (d:Nat):Option Nat :=
 match x with
 | none=>some d
 | some (.int _ (.ofNat n))=>some n
 | _=>none
def zH (P:Program) (t:TypeId) (x:Value) (lo hi mx:Option Value) (h:AH):Option Value :=
 match P.underlying t,x,mx with
 | some .string,.string s,none=>match zi lo 0,zi hi s.data.toList.length with
  | some l,some r=>match Nat.ble l r && Nat.ble r s.data.toList.length with
   | true=>some (.string ⟨((s.data.toList.drop l).take (r - l)).toArray⟩)
   | false=>none
  | _,_=>none
 | some (.slice e),.slice none 0 0,none=>match zi lo 0,zi hi 0,zI P e with
  | some 0,some 0,some _=>some (.slice none 0 0)
  | _,_,_=>none
 | some (.slice e),.slice (some ⟨b,o,none⟩) len cap,none=>match h.get b,zI P e with
  | some (.cells _ _ slk _),some n=>match zi lo 0,zi hi len with
   | some l,some r=>match Nat.ble l r && Nat.ble r cap with
    | true=>match slk.isNone && Nat.beq l cap with
     | true=>some (.slice (some ⟨b,o,none⟩) (r - l) (cap - l))
     | false=>some (.slice (some ⟨b,o+l*n,none⟩) (r - l) (cap - l))
    | false=>none
   | _,_=>none
  | _,_=>none
 | some (.array m e),.pointer (some ⟨b,o,none⟩),none=>match h.get b,zI P e with
  | some (.cells _ _ none _),some n=>match zi lo 0,zi hi m with
   | some l,some r=>match Nat.ble l r && Nat.ble r m with
    | true=>match Nat.beq l m with
     | true=>some (.slice (some ⟨b,o,none⟩) (r - l) (m - l))
     | false=>some (.slice (some ⟨b,o+l*n,none⟩) (r - l) (m - l))
    | false=>none
   | _,_=>none
  | _,_=>none
 | _,_,_=>none
def Va (P:Program) (t:TypeId) (x:Value) (lo hi mx:Option Value) (h:AH):Option (Value×AH) :=
 match mx,hi with
 | some m,some r=>match P.underlying t,x with
  | some (.slice e),.slice (some ⟨b,o,none⟩) len cap=>match h.get b,zI P e with
   | some (.cells _ _ slk _),some n=>match zi lo 0,zi (some r) len,zi (some m) cap with
    | some l,some r,some m=>match Nat.ble l r && (Nat.ble r m && Nat.ble m cap) with
     | true=>some (.slice (some ⟨h.next,0,none⟩) (r - l) (m - l),{ tr:=h.tr,next:=h.next+1,low:=lowest h.low b })
     | false=>none
    | _,_,_=>none
   | _,_=>none
  | _,_=>none
 | _,_=>none
theorem je {P:Program} {t:TypeId} {x:Value} {lo hi:Option Value} {h:AH}:Va P t x lo hi none h=none:=rfl
def qbi (P:Program) (t:TypeId) (x:Value):Option Value :=
 match P.underlying t,x with
 | some .string,.string s=>some (.int .i64 s.data.toList.length)
 | some (.slice _),.slice _ n _=>some (.int .i64 n)
 | some (.array n _),_=>some (.int .i64 n)
 | some (.pointer a),_=>match P.underlying a with
  | some (.array n _)=>some (.int .i64 n)
  | _=>none
 | _,_=>none
def lesser:Value→Value→Option Value
 | .int k x,.int k' y=>some (.int k (if y<x then y else x))
 | .string x,.string y=>some (.string (if Op.bytesLess x.data.toList y.data.toList || zK x y then x else y))
 | _,_=>none
def greater:Value→Value→Option Value
 | .int k x,.int k' y=>some (.int k (if y > x then y else x))
 | .string x,.string y=>some (.string (if !(Op.bytesLess x.data.toList y.data.toList) then x else y))
 | _,_=>none
def Y0 (f:Value→Value→Option Value):Value→List Value→Option Value
 | x,[]=>some x
 | x,y :: r=>match f x y with|some z=>Y0 f z r|none=>none
def Q9 (size:Nat) (x:Value) (h:AH):Option (Nat×List Value) :=
 match x with
 | .slice none 0 0=>some (0,[])
 | .slice (some ⟨b,o,none⟩) n _=>match h.get b with
  | some (.cells c _ _ _)=>match zn c o (n*size) with
   | some xs=>some (n,xs)
   | none=>none
  | _=>none
 | .string s=>some (s.data.toList.length,s.data.toList.map fun b=>.int .u8 b.toNat)
 | _=>none
def zV (P:Program) (types:List TypeId) (s x:Value) (h:AH):Option (Value×AH) :=
 match types with
 | [ts,tx]=>match qQ P ts,P.underlying tx with
  | some _,some (.int _)=>none
  | some e,some _=>match qV P e,Qh P e with
   | some z,some (by_+1)=>match Q9 z.length x h with
    | some (n,new)=>match Nat.ble ((n+1)*(by_+1)) 140737488355328 && (new.all one? && Nat.beq new.length (n*z.length)) with
     | true =>
      match s with
      | .slice none 0 0 =>
       match n with
       | 0=>some (.slice none 0 0,h)
       | _=>some (.slice (some ⟨h.next,0,none⟩) n n,h.add (.cells new e (some z.length) false))
      | .slice (some ⟨b,o,none⟩) len cap =>
       match h.get b with
       | some (.cells c eb slk ro) =>
        match Nat.ble (len+n) cap with
        | true =>
         match n with
         | 0=>some (.slice (some ⟨b,o,none⟩) len cap,h)
         | _=>match ro with
          | true=>none
          | false=>match putCells h b (o+len*z.length) c eb slk new with
           | some h'=>some (.slice (some ⟨b,o,none⟩) (len+n) cap,h')
           | none=>none
        | false =>
         match zn c o (len*z.length),Nat.ble ((len+n)*(by_+1)) 140737488355328 with
         | some old,true =>
          match slk with
          | none=>some (.slice (some ⟨h.next,0,none⟩) (len+n) (len+n),h.add (.cells (old ++ new) e (some z.length) false))
          | some k=>match ro,Nat.beq k z.length && Nat.beq eb e && Nat.ble (o+cap*k) c.length with
           | false,true=>some (.slice (some ⟨h.next,0,none⟩) (len+n) (len+n),(h.put b .dead).add (.cells (old ++ new) e (some z.length) false))
           | _,_=>none
         | _,_=>none
       | _=>none
      | _=>none
     | false=>none
    | none=>none
   | _,_=>none
  | _,_=>none
 | _=>none
def YX:TypeDesc→Value→Bool
 | .int k,.int k' _=>decide (k=k')
 | .string,.string _=>true
 | _,_=>false
def WG (P:Program) (t:TypeId) (k:Value):Option (TypeDesc×TypeId) :=
 match P.underlying t with
 | some (.map kt et)=>match P.underlying kt with
  | some kd=>match YX kd k with
   | true=>some (kd,et)
   | false=>none
  | none=>none
 | _=>none
def Zp (kd:TypeDesc) (k:Value):List (Value×Value×Nat)→Nat→Option (Option (Nat×Value))
 | [],_=>some none
 | e :: es,i=>match Instr.sameNow kd k e.1 with
  | some true=>some (some (i,e.2.1))
  | some false=>Zp kd k es (i+1)
  | none=>none
def XB (m:Value) (h:AH):Option (List (Value×Value×Nat)) :=
 match m with
 | .map none=>some []
 | .map (some b)=>match h.get b with
  | some (.map es _)=>some es
  | _=>none
 | _=>none
def zeroV (P:Program) (t:TypeId):Option Value :=
 match X5 P t with
 | some z=>match QJ z with
  | true=>some z
  | false=>none
 | none=>none
def Qw (P:Program) (t:TypeId) (m k:Value) (ok:Bool) (h:AH):Option Value :=
 match WG P t k,XB m h with
 | some (kd,et),some es=>match Zp kd k es 0 with
  | some (some (_,v))=>some (match ok with|true=>.tuple #[v,.bool true]|false=>v)
  | some none=>match zeroV P et with
   | some z=>some (match ok with|true=>.tuple #[z,.bool false]|false=>z)
   | none=>none
  | none=>none
 | _,_=>none
def Qi (P:Program) (t:TypeId) (m k v:Value) (h:AH):Option AH :=
 match WG P t k,m with
 | some (kd,_),.map (some b)=>match h.get b with
  | some (.map es clock)=>match Zp kd k es 0 with
   | some (some (i,_))=>some (h.put b (.map (es.modify i fun e=>(k,v,e.2.2)) clock))
   | some none=>some (h.put b (.map (es ++ [(k,v,clock)]) (clock+1)))
   | none=>none
  | _=>none
 | _,_=>none
def VQ (P:Program) (t:TypeId) (m k:Value) (h:AH):Option (Value×AH) :=
 match WG P t k,m with
 | some (kd,et),.map (some b)=>match h.get b with
  | some (.map es clock)=>match Zp kd k es 0 with
   | some (some (i,v))=>match es[i]? with
    | some e=>some (.tuple #[v,.int .i64 e.2.2],h.put b (.map (es.modify i fun e=>(k,e.2)) clock))
    | none=>none
   | some none=>match zeroV P et with
    | some z=>some (.tuple #[z,.int .i64 clock],h.put b (.map (es ++ [(k,z,clock)]) (clock+1)))
    | none=>none
   | none=>none
  | _=>none
 | _,_=>none
def XC (m s v:Value) (h:AH):Option AH :=
 match m,s with
 | .map (some b),.int _ n=>match h.get b with
  | some (.map es clock)=>match es.findIdx? fun e=>decide ((e.2.2:Int)=n) with
   | some i=>some (h.put b (.map (es.modify i fun e=>(e.1,v,e.2.2)) clock))
   | none=>none
  | _=>none
 | _,_=>none
def Vb (h:AH):Value×AH:=(.map (some h.next),h.add (.map [] 0))
def VW (x:Value) (h:AH):Option AH :=
 match x with
 | .map none=>some h
 | .map (some b)=>match h.get b with
  | some (.map _ clock)=>some (h.put b (.map [] clock))
  | _=>none
 | _=>none
def yV (P:Program) (t:TypeId) (x:Value) (h:AH):Option AH :=
 match P.underlying t,x with
 | some (.slice _),.slice none 0 0=>some h
 | some (.slice e),.slice (some ⟨b,o,none⟩) n _ =>
  match n with
  | 0=>some h
  | _=>match qV P e,h.get b with
   | some z,some (.cells c eb slk false)=>putCells h b o c eb slk (zg z n)
   | _,_=>none
 | some (.map _ _),x=>VW x h
 | _,_=>none
def JS (x:Value):Option Value :=
 match x with
 | .slice none 0 0=>some (.pointer none)
 | .slice (some ⟨b,o,none⟩) _ (_+1)=>some (.pointer (some ⟨b,o,none⟩))
 | _=>none
def Qs (P:Program) (types:List TypeId) (p n:Value) (h:AH):Option (Value×AH) :=
 match p,n with
 | .pointer none,.int _ 0=>match types with | _ :: _=>some (.string ⟨#[]⟩,h)|[]=>none
 | .pointer (some ⟨b,o,none⟩),.int _ (.ofNat k) =>
  match types with
  | pt :: _=>match P.underlying pt with
   | some (.pointer e)=>match h.get b,P.underlying e,zI P e with
    | some (.cells c eb slk false),some (.int .u8),some 1 =>
     match Nat.beq eb e && Nat.ble k 4611686018427387904,zn c o k with
     | true,some xs=>match bytesOf? xs with
      | some s=>match k with
       | 0=>some (.string ⟨#[]⟩,h)
       | _=>some (.string ⟨s.toArray⟩,h.put b (.cells c eb slk true))
      | none=>none
     | _,_=>none
    | _,_,_=>none
   | _=>none
  | _=>none
 | _,_=>none
inductive J4 where
 | val (v:Value) (h:AH)
 | skip (h:AH)
 | call (f:FuncId) (args:List Value)
 | yield (l:Nat) (args:List Value)
def ja (t:Tr Value):Operand→Option Value
 | .tmp k=>t.get k
 | .const v=>match QJ v with|true=>some v|false=>none
 | .global _=>none
 | .func f=>some (.func (.func f) #[] #[])
def jA (t:Tr Value):List Operand→Option (List Value)
 | []=>some []
 | o :: r=>match ja t o,jA t r with
  | some v,some vs=>some (v :: vs)
  | _,_=>none
def jC (t:Tr Value):List (Nat×Operand)→Option (List (Nat×Value))
 | []=>some []
 | (i,o) :: r=>match ja t o,jC t r with
  | some v,some vs=>some ((i,v) :: vs)
  | _,_=>none
def jd (t:Tr Value):Option Operand→Option (Option Value)
 | none=>some none
 | some o=>match ja t o with|some v=>some (some v)|none=>none
def qM (o:Option Value) (h:AH):Option J4:=match o with|some v=>some (.val v h)|none=>none
def Qa (o:Option (Value×AH)):Option J4:=match o with|some (v,h)=>some (.val v h)|none=>none
def qhj (P:Program) (t:TypeId) (x:Value):Option Value :=
 match P.underlying t,x with
 | some (.slice _),.slice none 0 0=>some (.int .i64 0)
 | _,_=>none
def qeJ (P:Program) (t:TypeId) (d x:Value) (h:AH):Option (Value×AH) :=
 match qQ P t with
 | some e=>match qV P e with
  | some z=>match d,x with
   | .slice (some ⟨b,o,none⟩) len _,.slice (some ⟨b2,o2,none⟩) n2 c2 =>
    match Nat.ble 1 len && (Nat.ble 1 n2 && Nat.ble n2 c2) with
    | true=>match Q9 z.length (.slice (some ⟨b2,o2,none⟩) (Nat.min n2 len) c2) h,h.get b with
     | some (_,new),some (.cells c eb slk false)=>match putCells h b o c eb slk new with
      | some h'=>some (.int .i64 ((Nat.min n2 len:Nat):Int),h')
      | none=>none
     | _,_=>none
    | false=>none
   | _,_=>none
  | none=>none
 | none=>none
def jk (P:Program) (b:Builtin) (types:List TypeId) (args:List Value) (h:AH):Option J4 :=
 match b,types,args with
 | .len,ty :: _,x :: _=>qM (qbi P ty x) h
 | .cap,ty :: _,x :: _=>qM (qhj P ty x) h
 | .append,_,[s,x]=>Qa (zV P types s x h)
 | .copy,ty :: _,[s,x]=>Qa (qeJ P ty s x h)
 | .min,_,x :: r=>qM (Y0 lesser x r) h
 | .max,_,x :: r=>qM (Y0 greater x r) h
 | .clear,ty :: _,x :: _=>match yV P ty x h with|some h'=>some (.val (.tuple #[]) h')|none=>none
 | .unsafeSliceData,_,[x]=>qM (JS x) h
 | .unsafeString,_,[p,n]=>Qa (Qs P types p n h)
 | _,_,_=>none
def zX (P:Program) (t:Tr Value) (h:AH) (op:Op):Option J4 :=
 match op with
 | .move x|.assign x=>qM (ja t x) h
 | .pick c a b=>match ja t c with
  | some (.bool true)=>qM (ja t a) h
  | some (.bool false)=>qM (ja t b) h
  | _=>none
 | .alloc e=>match X5 P e with
  | some z=>match QJ z with
   | true=>some (.val (Gn e z.cells.toList h).1 (Gn e z.cells.toList h).2)
   | false=>none
  | none=>none
 | .box e x=>match ja t x with
  | some v=>some (.val (Gn e v.cells.toList h).1 (Gn e v.cells.toList h).2)
  | none=>none
 | .build ty ps=>match jC t ps.toList with
  | some vs=>qM (qbl P ty vs) h
  | none=>none
 | .buildSlice ty n ps=>match jC t ps.toList with
  | some vs=>Qa (jr P ty n vs h)
  | none=>none
 | .load ty a=>match ja t a with
  | some v=>qM (Z8 P ty v h) h
  | none=>none
 | .store ty a x=>match ja t a,ja t x with
  | some p,some v=>match JR P ty p v h with
   | some h'=>some (.skip h')
   | none=>none
  | _,_=>none
 | .nilCheck x=>match ja t x with
  | some (.pointer (some a))=>some (.val (.pointer (some a)) h)
  | _=>none
 | .binOp op ty x y _=>match ja t x,ja t y with
  | some a,some b=>qM (jP P op ty a b) h
  | _,_=>none
 | .unOp op _ x=>match ja t x with
  | some a=>qM (aUn op a) h
  | none=>none
 | .convert s d x=>match ja t x with
  | some a=>match zY P s d a with
   | some v=>some (.val v h)
   | none=>match zS P s d a h with
    | some v=>some (.val v h)
    | none=>qM (jb P s d a h) h
  | none=>none
 | .makeFunc (.func f) first captured=>match jA t first.toList,jA t captured.toList with
  | some a,some b=>some (.val (.func (.func f) a.toArray b.toArray) h)
  | _,_=>none
 | .makeSlice ty l c=>match ja t l,ja t c with
  | some a,some b=>Qa (QA P ty a b h)
  | _,_=>none
 | .slice ty x lo hi mx=>match ja t x,jd t lo,jd t hi,jd t mx with
  | some a,some l,some r,some m=>match Va P ty a l r m h with
   | some q=>some (.val q.1 q.2)
   | none=>qM (zH P ty a l r m h) h
  | _,_,_,_=>none
 | .fieldAddr s x f=>match ja t x with
  | some a=>qM (JU P s a f) h
  | none=>none
 | .field s x f=>match ja t x with
  | some a=>qM (qbj P s a f) h
  | none=>none
 | .indexAddr ty x i=>match ja t x,ja t i with
  | some a,some k=>qM (jy P ty a k) h
  | _,_=>none
 | .index ty x i=>match ja t x,ja t i with
  | some a,some k=>qM (yS P ty a k) h
  | _,_=>none
 | .makeMap _ rs=>match rs with
  | none=>Qa (some (Vb h))
  | some _=>none
 | .lookup ty m k ok=>match ja t m,ja t k with
  | some a,some b=>qM (Qw P ty a b ok h) h
  | _,_=>none
 | .mapUpdate ty m k x=>match ja t m,ja t k,ja t x with
  | some a,some b,some c=>match Qi P ty a b c h with
   | some h'=>some (.skip h')
   | none=>none
  | _,_,_=>none
 | .insert ty m k x=>match ja t m,ja t k,ja t x with
  | some a,some b,some c=>match Qi P ty a b c h with
   | some h'=>some (.skip h')
   | none=>none
  | _,_,_=>none
 | .mapEntry ty m k=>match ja t m,ja t k with
  | some a,some b=>Qa (VQ P ty a b h)
  | _,_=>none
 | .entryStore _ m s x=>match ja t m,ja t s,ja t x with
  | some a,some b,some c=>match XC a b c h with
   | some h'=>some (.skip h')
   | none=>none
  | _,_,_=>none
 | .extract x k=>match ja t x with
  | some (.tuple vs)=>qM vs.toList[k]? h
  | _=>none
 | .call c=>match jA t c.args.toList with
  | some args=>match c.callee with
   | .builtin b=>jk P b c.argTypes.toList args h
   | .value f=>match ja t f with
    | some (.func (.func g) first captured)=>some (.call g (first.toList ++ (args ++ captured.toList)))
    | some (.func (.yield l) first captured)=>match first.toList,captured.toList with
     | [],[]=>some (.yield l args)
     | _,_=>none
    | _=>none
   | .invoke _ _=>none
  | none=>none
 | _=>none
inductive AX where
 | norm
 | exit (id:Nat)
 | ret
abbrev Res:=AX×Tr Value×AH
abbrev zF:=Bool→Nat→Code→Tr Value→AH→Option Res
abbrev Extern:=FuncId→List Value→AH→Option (Value×AH)
def J6 (sz:Nat) (t:Tr Value) (d:Option Tmp) (v:Value):Option (Tr Value) :=
 match d with
 | none=>some t
 | some k=>match Nat.blt k sz with
  | true=>some (t.set k v)
  | false=>none
def jq:Nat→List Value→Tr Value→Tr Value
 | _,[],t=>t
 | k,v :: r,t=>jq (k+1) r (t.set k v)
def JG (P:Program) (t:Tr Value) (h:AH):ResultVar→Option Value
 | .tmp k=>t.get k
 | .cell a ty=>match t.get a with
  | some p=>Z8 P ty p h
  | none=>none
def jR (P:Program) (t:Tr Value) (h:AH):List ResultVar→Option (List Value)
 | []=>some []
 | r :: rs=>match JG P t h r,jR P t h rs with
  | some v,some vs=>some (v :: vs)
  | _,_=>none
def jh:List Value→Value
 | [v]=>v
 | vs=>.tuple vs.toArray
def Qr (P:Program) (X:Extern) (run:zF) (f:FuncId) (args:List Value) (h:AH):Option (Value×AH) :=
 match X f args h with
 | some r=>some r
 | none=>match P.funcs[f]? with
  | some fn=>match fn.body with
   | some body=>match run false (args.length+(fn.ntmps - args.length)) body (jq 0 args .e) h with
    | some (.exit _,_,_)=>none
    | some (_,t,h')=>match jR P t h' fn.results.toList with
     | some vs=>some (jh vs,h')
     | none=>none
    | none=>none
   | none=>none
  | none=>none
def Vm:List Tmp→List Value→Tr Value→Option (Tr Value)
 | [],[],t=>some t
 | p :: ps,v :: vs,t=>Vm ps vs (t.set p v)
 | _,_,_=>none
def qgJ:AX→Option Code
 | .norm=>none
 | .exit id=>some (.exit id)
 | .ret=>some .ret
def Ze (run:zF) (l:Nat) (args:List Value) (h:AH):Option (Value×AH) :=
 match h.get l with
 | some (.loop .ready none sz tmps params assign body) =>
  match params.all (fun p=>Nat.blt p sz),Vm params args tmps with
  | true,some t0=>match run true sz assign t0 h with
   | some (.norm,t1,h1)=>match h1.get l with
    | some (.loop .ready none sz' tmps' params' assign' body') =>
     match run true sz body t1 (h1.put l (.loop .busy none sz' tmps' params' assign' body')) with
     | some (x,_,h2)=>match h2.get l with
      | some (.loop .busy none sz2 tmps2 params2 assign2 body2) =>
       match x with
       | .norm=>some (.bool true,h2.put l (.loop .ready none sz2 tmps2 params2 assign2 body2))
       | x=>some (.bool false,h2.put l (.loop .done (qgJ x) sz2 tmps2 params2 assign2 body2))
      | _=>none
     | none=>none
    | _=>none
   | _=>none
  | _,_=>none
 | _=>none
def qo (ops:Array Oper) (t:Tr Value):Option (Nat×Bool)→Option Bool
 | none=>some true
 | some (j,want)=>match ops[j]? with
  | some o=>match o.dst with
   | some d=>match t.get d with
    | some (.bool b)=>some (b == want)
    | some (.tuple _)=>some false
    | _=>none
   | none=>none
  | none=>none
def vz (P:Program) (X:Extern) (run:zF) (t:Tr Value) (h:AH) (op:Op):Option (Value×AH) :=
 match zX P t h op with
 | some (.val v h')=>some (v,h')
 | some (.skip h')=>some (.tuple #[],h')
 | some (.call f args)=>Qr P X run f args h
 | some (.yield l args)=>Ze run l args h
 | none=>none
def Xk (P:Program) (X:Extern) (run:zF) (sz:Nat) (ops:Array Oper):List Oper→Tr Value→AH→Option (Tr Value×AH)
 | [],t,h=>some (t,h)
 | o :: r,t,h=>match qo ops t o.guard with
  | some true=>match vz P X run t h o.op with
   | some (v,h')=>match J6 sz t o.dst v with
    | some t'=>Xk P X run sz ops r t' h'
    | none=>none
   | none=>none
  | some false=>match J6 sz t o.dst (.tuple #[]) with
   | some t'=>Xk P X run sz ops r t' h
   | none=>none
  | none=>none
def Wn (op:Op):Bool :=
 match op with
 | .move _|.assign _|.pick ..|.build ..|.load ..|.nilCheck _|.binOp ..|.unOp ..|.convert ..|.makeFunc ..|.fieldAddr ..|.field ..|.indexAddr ..|.index ..|.extract ..|.lookup ..=>false
 | .slice _ _ _ _ m=>m.isSome
 | .call c=>match c.callee with
  | .builtin b=>match b with
   | .len|.cap|.min|.max|.unsafeSliceData=>false
   | _=>true
  | _=>true
 | _=>true
def tmpsOf:Operand→List Tmp
 | .tmp k=>[k]
 | _=>[]
def Jz:List Operand→List Tmp
 | []=>[]
 | o :: r=>tmpsOf o ++ Jz r
def Je:List (Nat×Operand)→List Tmp
 | []=>[]
 | (_,o) :: r=>tmpsOf o ++ Je r
def YK:Option Operand→List Tmp
 | none=>[]
 | some o=>tmpsOf o
def Yg (op:Op):List Tmp :=
 match op with
 | .move x|.assign x|.nilCheck x|.load _ x|.unOp _ _ x|.convert _ _ x|.fieldAddr _ x _|.field _ x _|.extract x _|.box _ x=>tmpsOf x
 | .pick c a b=>tmpsOf c ++ (tmpsOf a ++ tmpsOf b)
 | .build _ ps|.buildSlice _ _ ps=>Je ps.toList
 | .store _ a x=>tmpsOf a ++ tmpsOf x
 | .binOp _ _ x y _|.indexAddr _ x y|.index _ x y|.makeSlice _ x y=>tmpsOf x ++ tmpsOf y
 | .lookup _ m k _|.mapEntry _ m k=>tmpsOf m ++ tmpsOf k
 | .mapUpdate _ m k x|.insert _ m k x|.entryStore _ m k x=>tmpsOf m ++ (tmpsOf k ++ tmpsOf x)
 | .makeFunc _ a b=>Jz a.toList ++ Jz b.toList
 | .slice _ x a b c=>tmpsOf x ++ (YK a ++ (YK b ++ YK c))
 | .call c=>Jz c.args.toList ++ (match c.callee with|.value f=>tmpsOf f | _=>[])
 | _=>[]
def qfv (o:Oper):List Tmp:=match o.dst with|some d=>[d]|none=>[]
def qaZ (ops:Array Oper) (o:Oper):List Tmp :=
 match o.guard with
 | none=>[]
 | some (j,_)=>match ops[j]? with
  | some o'=>qfv o'
  | none=>[]
def ZV (ops:Array Oper) (o:Oper):List Tmp:=qfv o ++ (qaZ ops o ++ Yg o.op)
def yH (ms:List Nat) (m:Nat) (e:Edge):Nat :=
 match Region.binds .any e with
 | true=>m ||| ((1 <<< e.on) ||| (ms[e.on]?).getD 0)
 | false=>m
def qaW (ms:List Nat) (o:Oper):Nat:=o.after.toList.foldl (yH ms) 0
def masks:List Oper→List Nat→List Nat
 | [],ms=>ms
 | o :: r,ms=>masks r (ms ++ [qaW ms o])
def prec (ms:List Nat) (k i:Nat):Bool:=match ms[i]? with|some m=>m.testBit k|none=>false
def VG (l:List Nat) (k:Nat):Bool:=l.any (Nat.beq k)
def XP (ops:Array Oper) (i:Nat):Bool:=match ops[i]? with|some o=>Wn o.op|none=>false
def qd7 (ops:Array Oper) (i:Nat):Bool :=
 match ops[i]? with
 | some o=>match o.op with
  | .alloc _|.box ..|.buildSlice ..=>true
  | _=>false
 | none=>false
def Xr (ops:Array Oper) (ms:List Nat):List Nat :=
 (List.range ops.size).filter fun i=>qd7 ops i && (List.range ops.size).any fun k=>XP ops k && (!Nat.beq k i && !(prec ms k i || prec ms i k))
def qH (ops:Array Oper) (fl:List Nat) (i:Nat):Bool:=XP ops i && !VG fl i
def kW (o:Oper) (names:List Tmp):Bool:=match o.dst with|some d=>VG names d|none=>false
def clash (ops:Array Oper) (fl:List Nat) (k i:Nat):Bool :=
 match ops[k]?,ops[i]? with
 | some a,some b=>kW a (ZV ops b) || (kW b (ZV ops a) || (qH ops fl k && qH ops fl i))
 | _,_=>true
def qbJ (ops:Array Oper) (i:Nat):Bool :=
 match ops[i]? with
 | some o=>o.after.toList.all fun e=>!Region.binds .any e || Nat.blt e.on i
 | none=>false
def Ym (ops:Array Oper) (ms:List Nat) (fl:List Nat):Bool :=
 (List.range ops.size).all fun i=>qbJ ops i && (List.range i).all fun k=>!clash ops fl k i || prec ms k i
def jW (P:Program) (t:Tr Value) (op:Op):Option (Option Nat×List Value×TypeId) :=
 match op with
 | .alloc e=>match X5 P e with
  | some z=>match QJ z with
   | true=>some (none,z.cells.toList,e)
   | false=>none
  | none=>none
 | .box e x=>match ja t x with
  | some v=>some (none,v.cells.toList,e)
  | none=>none
 | .buildSlice ty n ps=>match jC t ps.toList,qQ P ty with
  | some vs,some e=>match qV P e with
   | some z=>match Nat.ble (n*z.length) 16777216 with
    | true=>match Y2 (fun i=>some (i*z.length,z.length)) (zg z n) vs with
     | some c=>some (some n,c,e)
     | none=>none
    | false=>none
   | none=>none
  | _,_=>none
 | _=>none
def Qk (k:Option Nat) (b:Nat):Value:=match k with|none=>.pointer (some ⟨b,0,none⟩)|some n=>.slice (some ⟨b,0,none⟩) n n
def wM:Value→Value→Bool
 | .bool a,.bool b=>a == b
 | .int k a,.int k' b=>decide (k=k') && decide (a=b)
 | .string a,.string b=>zK a b
 | .pointer none,.pointer none=>true
 | .pointer (some ⟨b,o,none⟩),.pointer (some ⟨b',o',none⟩)=>Nat.beq b b' && Nat.beq o o'
 | .slice none l c,.slice none l' c'=>Nat.beq l l' && Nat.beq c c'
 | .slice (some ⟨b,o,none⟩) l c,.slice (some ⟨b',o',none⟩) l' c'=>Nat.beq b b' && (Nat.beq o o' && (Nat.beq l l' && Nat.beq c c'))
 | .map none,.map none=>true
 | .nilFunc,.nilFunc=>true
 | .nilIface,.nilIface=>true
 | _,_=>false
def V8 (f:Value→Value→Bool):List Value→List Value→Bool
 | [],[]=>true
 | a :: r,b :: s=>f a b && V8 f r s
 | _,_=>false
def xE:Value→Value→Bool
 | .func (.func g) a c,.func (.func g') a' c'=>Nat.beq g g' && (V8 wM a.toList a'.toList && V8 wM c.toList c'.toList)
 | a,b=>wM a b
def wL:Value→Value→Bool
 | .agg a,.agg b=>V8 xE a.toList b.toList
 | .tuple a,.tuple b=>V8 xE a.toList b.toList
 | a,b=>xE a b
structure zJ where
 t:Tr Value
 h:AH
 go:Bool
 v:Value
def Ql:List (Nat×Nat)→Nat→Option Nat
 | [],_=>none
 | (j,b) :: r,i=>match Nat.beq j i with|true=>some b|false=>Ql r i
def stepD (P:Program) (X:Extern) (run:zF) (ids:List (Nat×Nat)) (place:Bool) (i:Nat) (op:Op) (t:Tr Value) (h:AH):Option (Value×AH) :=
 match Ql ids i with
 | some b=>match jW P t op with
  | some (k,c,e)=>match place with
   | true=>some (Qk k b,{ h with tr:=h.tr.set b (.cells c e none false) })
   | false=>some (Qk k b,h)
  | none=>none
 | none=>vz P X run t h op
def Xz (s:zJ):Option (List zJ×Tr Value×AH)→Option (List zJ×Tr Value×AH)
 | some (l,t,h)=>some (s :: l,t,h)
 | none=>none
def Jj (P:Program) (X:Extern) (run:zF) (sz:Nat) (ops:Array Oper) (ids:List (Nat×Nat)) (place:Bool):Nat→List Oper→Tr Value→AH→Option (List zJ×Tr Value×AH)
 | _,[],t,h=>some ([],t,h)
 | i,o :: r,t,h=>match qo ops t o.guard with
  | some true=>match stepD P X run ids place i o.op t h with
   | some (v,h')=>match J6 sz t o.dst v with
    | some t'=>Xz ⟨t,h,true,v⟩ (Jj P X run sz ops ids place (i+1) r t' h')
    | none=>none
   | none=>none
  | some false=>match J6 sz t o.dst (.tuple #[]) with
   | some t'=>Xz ⟨t,h,false,.tuple #[]⟩ (Jj P X run sz ops ids place (i+1) r t' h)
   | none=>none
  | none=>none
def hpAt (l:List zJ) (h':AH) (k:Nat):AH:=match l[k]? with|some s=>s.h|none=>h'
def yD (ms mems:List Nat) (m i:Nat):Bool:=(mems.drop m).any (fun q=>prec ms q i) || (mems.take m).any (fun q=>prec ms i q)
def qgE (P:Program) (ids:List (Nat×Nat)) (i:Nat) (op:Op) (s:zJ) (k:AH):Bool :=
 match Ql ids i with
 | some b=>match jW P s.t op with
  | some (_,c,e)=>match k.get b with
   | some (.cells c' e' none false)=>Nat.beq e e' && V8 xE c c'
   | _=>false
  | none=>false
 | none=>match zX P s.t k op with
  | some (.val v _)=>wL v s.v
  | _=>false
def qgK (op:Op):Bool:=match op with|.load ..|.slice ..|.convert ..|.lookup ..=>true | _=>false
def KY (ms mems:List Nat) (i:Nat):Bool:=mems.all fun q=>match Nat.blt q i with|true=>prec ms q i|false=>Nat.beq q i || prec ms i q
def Yt (ids:List (Nat×Nat)) (ms mems:List Nat) (i:Nat) (op:Op):Bool:=match Ql ids i with|some _=>false|none=>!qgK op || KY ms mems i
def gK (P:Program) (ops:Array Oper) (ids:List (Nat×Nat)) (ms fl mems:List Nat) (hs:List AH) (l:List zJ) (i:Nat):Bool :=
 qH ops fl i || match ops[i]?,l[i]? with
  | some o,some s=>!s.go || (Yt ids ms mems i o.op || (List.range hs.length).all fun m=>yD ms mems m i || match hs[m]? with
   | some k=>qgE P ids i o.op s k
   | none=>false)
  | _,_=>false
def OkAtP (P:Program) (ids:List (Nat×Nat)) (i:Nat) (op:Op) (s:zJ) (k:AH):Prop :=
 match Ql ids i with
 | some b=>∃ x c e,jW P s.t op=some (x,c,e)∧k.get b=some (.cells c e none false)
 | none=>∃ u,zX P s.t k op=some (.val s.v u)
def qeM (P:Program) (ops:Array Oper) (ids:List (Nat×Nat)) (ms fl mems:List Nat) (hs:List AH) (l:List zJ):Prop :=
 ∀ i,i<ops.size→qH ops fl i=false→∀ o s,ops[i]? = some o→l[i]? = some s→s.go=true→Yt ids ms mems i o.op=false→∀ (m:Nat) (k:AH),hs[m]? = some k→yD ms mems m i=false→OkAtP P ids i o.op s k
def numbered:Nat→List Nat→List (Nat×Nat)
 | _,[]=>[]
 | n,j :: r=>(j,n) :: numbered (n+1) r
def WV (ops:Array Oper) (ms:List Nat) (j:Nat):List Nat:=(List.range j).filter fun i=>prec ms i j && !XP ops i
def wF (P:Program) (ops:Array Oper) (sz:Nat) (h:AH) (t:Tr Value) (i:Nat):Tr Value :=
 match ops[i]? with
 | some o=>match qo ops t o.guard with
  | some true=>match zX P t h o.op with
   | some (.val v _)=>match J6 sz t o.dst v with
    | some t'=>t'
    | none=>t
   | _=>t
  | _=>t
 | none=>t
def JI (P:Program) (ops:Array Oper) (sz:Nat) (h:AH) (t:Tr Value) (j:Nat):Qp :=
 match ops[j]? with
 | some o=>match jW P ((WV ops (masks ops.toList []) j).foldl (wF P ops sz h) t) o.op with
  | some (_,c,e)=>.cells c e none false
  | none=>.dead
 | _=>.dead
open Classical in
noncomputable def Xj (P:Program) (X:Extern) (run:zF) (sz:Nat) (ops:Array Oper) (ms fl:List Nat) (ids:List (Nat×Nat)) (t:Tr Value) (h:AH):Option (Tr Value×AH) :=
 match Jj P X run sz ops ids false 0 ops.toList t h with
 | some (l,t',h') =>
  let mems:=(List.range ops.size).filter (qH ops fl)
  let hs:=h :: mems.map fun i=>hpAt l h' (i+1)
  match (List.range ops.size).all (gK P ops ids ms fl mems hs l) with
  | true=>some (t',h')
  | false=>if qeM P ops ids ms fl mems hs l then some (t',h') else none
 | none=>none
noncomputable def WF (P:Program) (X:Extern) (run:zF) (sz:Nat) (ops:Array Oper) (t:Tr Value) (h:AH):Option (Tr Value×AH) :=
 let ms:=masks ops.toList []
 let fl:=Xr ops ms
 match Ym ops ms fl with
 | true=>match fl with
  | []=>Xj P X run sz ops ms [] [] t h
  | j :: r=>Xj P X run sz ops ms (j :: r) (numbered h.next (j :: r)) t (((j :: r).map (JI P ops sz h t)).foldl AH.add h)
 | false=>none
noncomputable def zC (P:Program) (X:Extern) (run:zF):zF:=fun inR sz c t h =>
 match c with
 | .skip=>some (.norm,t,h)
 | .label _=>some (.norm,t,h)
 | .seq a b=>match run inR sz a t h with
  | some (.norm,t',h')=>run inR sz b t' h'
  | r=>r
 | .cond c a b=>match ja t c with
  | some (.bool true)=>run inR sz a t h
  | some (.bool false)=>run inR sz b t h
  | _=>none
 | .block id body=>match run inR sz body t h with
  | some (.exit id',t',h')=>match Nat.beq id' id with
   | true=>some (.norm,t',h')
   | false=>some (.exit id',t',h')
  | r=>r
 | .loop body=>match run inR sz body t h with
  | some (.norm,t',h')=>run inR sz (.loop body) t' h'
  | r=>r
 | .scope body=>run inR sz body t h
 | .exit id=>some (.exit id,t,h)
 | .ret=>some (.ret,t,h)
 | .region _ ops false=>match Xk P X run sz ops ops.toList t h with
  | some (t',h')=>some (.norm,t',h')
  | none=>none
 | .region _ ops true=>match WF P X run sz ops t h with
  | some (t',h')=>some (.norm,t',h')
  | none=>none
 | .rangeFunc f ps assign body=>match inR,ja t f with
  | false,some (.func (.func g) first captured) =>
   match Qr P X run g (first.toList ++ (.func (.yield h.next) #[] #[] :: captured.toList)) (h.add (.loop .ready none sz t ps.toList assign body)) with
   | some (_,h')=>match h'.get h.next with
    | some (.loop st pend sz' tmps' ps' asg' bo') =>
     match st with
     | .busy=>none
     | _=>match pend with
      | none=>some (.norm,t,h'.put h.next (.loop .exhausted pend sz' tmps' ps' asg' bo'))
      | some (.exit id)=>some (.exit id,t,h'.put h.next (.loop .exhausted pend sz' tmps' ps' asg' bo'))
      | some .ret=>some (.ret,t,h'.put h.next (.loop .exhausted pend sz' tmps' ps' asg' bo'))
      | _=>none
    | _=>none
   | none=>none
  | _,_=>none
 | _=>none
noncomputable def exec (P:Program) (X:Extern) (n:Nat):zF :=
 Nat.rec (fun _ _ _ _ _=>none) (fun _ ih=>zC P X ih) n
end Go.Proofs.Xx
namespace Go.Proofs.Xx
open Go
structure Loc where
 blk:Nat
 sh:Nat
 slack:Nat
abbrev Emb:=Nat→Option Loc
mutual
inductive VR (f:Emb):Value→Value→Prop where
 | bool (b:Bool):VR f (.bool b) (.bool b)
 | int (k:IntKind) (n:Int):VR f (.int k n) (.int k n)
 | float (k:FloatKind) (n:Nat):VR f (.float k n) (.float k n)
 | string (s:ByteArray):VR f (.string s) (.string s)
 | nilPointer:VR f (.pointer none) (.pointer none)
 | pointer (b o:Nat) (L:Loc) (h:f b=some L):VR f (.pointer (some ⟨b,o,none⟩)) (.pointer (some ⟨L.blk,L.sh+o,none⟩))
 | nilSlice:VR f (.slice none 0 0) (.slice none 0 0)
 | slice (b o:Nat) (a:Addr) (len cap:Nat) (L:Loc) (h:f b=some L) (hl:len≤cap) (ho:a=⟨L.blk,L.sh+o,none⟩∨(cap=0∧L.slack=0)) :
  VR f (.slice (some ⟨b,o,none⟩) len cap) (.slice (some a) len (cap+L.slack))
 | nilMap:VR f (.map none) (.map none)
 | map (b:Nat) (L:Loc) (h:f b=some L):VR f (.map (some b)) (.map (some L.blk))
 | func (g:FuncId) (a a' c c':List Value) (h1:VRs f a a') (h2:VRs f c c'):VR f (.func (.func g) a.toArray c.toArray) (.func (.func g) a'.toArray c'.toArray)
 | yield (l:Nat) (L:Loc) (h:f l=some L):VR f (.func (.yield l) #[] #[]) (.func (.yield L.blk) #[] #[])
 | nilFunc:VR f .nilFunc .nilFunc
 | nilIface:VR f .nilIface .nilIface
 | agg (c c':List Value) (h:VRs f c c'):VR f (.agg c.toArray) (.agg c'.toArray)
 | tuple (c c':List Value) (h:VRs f c c'):VR f (.tuple c.toArray) (.tuple c'.toArray)
inductive VRs (f:Emb):List Value→List Value→Prop where
 | nil:VRs f [] []
 | cons (v v':Value) (r r':List Value) (h:VR f v v') (hr:VRs f r r'):VRs f (v :: r) (v' :: r')
end
def Emb.le (f g:Emb):Prop:=∀ b L,f b=some L→g b=some L
theorem Emb.le_refl (f:Emb):f.le f:=fun _ _ h=>h
theorem Emb.le_trans {f g k:Emb} (h:f.le g) (h':g.le k):f.le k:=fun b L e=>h' b L (h b L e)
mutual
theorem VR.mono {f g:Emb} (hle:f.le g):∀ {v v':Value},VR f v v'→VR g v v'
 | _,_,.bool b=>.bool b
 | _,_,.int k n=>.int k n
 | _,_,.float k n=>.float k n
 | _,_,.string s=>.string s
 | _,_,.nilPointer=>.nilPointer
 | _,_,.pointer b o L h=>.pointer b o L (hle b L h)
 | _,_,.nilSlice=>.nilSlice
 | _,_,.slice b o a len cap L h hl ho=>.slice b o a len cap L (hle b L h) hl ho
 | _,_,.nilMap=>.nilMap
 | _,_,.map b L h=>.map b L (hle b L h)
 | _,_,.func gg a a' c c' h1 h2=>.func gg a a' c c' (VRs.mono hle h1) (VRs.mono hle h2)
 | _,_,.yield l L h=>.yield l L (hle l L h)
 | _,_,.nilFunc=>.nilFunc
 | _,_,.nilIface=>.nilIface
 | _,_,.agg c c' h=>.agg c c' (VRs.mono hle h)
 | _,_,.tuple c c' h=>.tuple c c' (VRs.mono hle h)
theorem VRs.mono {f g:Emb} (hle:f.le g):∀ {c c':List Value},VRs f c c'→VRs g c c'
 | _,_,.nil=>.nil
 | _,_,.cons v v' r r' h hr=>.cons v v' r r' (VR.mono hle h) (VRs.mono hle hr)
end
theorem VRs.length {f:Emb}:∀ {c c':List Value},VRs f c c'→c'.length=c.length
 | _,_,.nil=>rfl
 | _,_,.cons _ _ _ _ _ hr=>by simp [VRs.length hr]
theorem VRs.get {f:Emb}:∀ {c c':List Value},VRs f c c'→∀ (i:Nat) (v:Value),c[i]? = some v→∃ v',c'[i]? = some v'∧VR f v v'
 | _,_,.nil,i,v,h=>by simp at h
 | _,_,.cons w w' r r' hw hr,i,v,h=>by
  cases i with
  | zero=>simp at h;subst h;exact ⟨w',by simp,hw⟩
  | succ i=>simp at h;obtain ⟨v',h1,h2⟩:=VRs.get hr i v h;exact ⟨v',by simpa using h1,h2⟩
theorem VRs.append {f:Emb}:∀ {a a' b b':List Value},VRs f a a'→VRs f b b'→VRs f (a ++ b) (a' ++ b')
 | _,_,_,_,.nil,h=>h
 | _,_,_,_,.cons v v' r r' hv hr,h=>.cons v v' _ _ hv (VRs.append hr h)
theorem VRs.take {f:Emb}:∀ {a a':List Value},VRs f a a'→∀ n,VRs f (a.take n) (a'.take n)
 | _,_,.nil,n=>by simp;exact .nil
 | _,_,.cons v v' r r' hv hr,n=>by
  cases n with
  | zero=>simp;exact .nil
  | succ n=>simp;exact .cons _ _ _ _ hv (VRs.take hr n)
theorem VRs.drop {f:Emb}:∀ {a a':List Value},VRs f a a'→∀ n,VRs f (a.drop n) (a'.drop n)
 | _,_,.nil,n=>by simp;exact .nil
 | _,_,.cons v v' r r' hv hr,n=>by
  cases n with
  | zero=>simp;exact .cons _ _ _ _ hv hr
  | succ n=>simp;exact VRs.drop hr n
theorem VRs.qdR {f:Emb}:∀ {c c':List Value},c'.length=c.length→(∀ (i:Nat) (v:Value),c[i]? = some v→∃ v',c'[i]? = some v'∧VR f v v')→VRs f c c'
 | [],[],_,_=>.nil
 | [],_ :: _,h,_=>by simp at h
 | _ :: _,[],h,_=>by simp at h
 | v :: r,v' :: r',hl,h=>by
  obtain ⟨w,h1,h2⟩:=h 0 v (by simp);simp at h1;subst h1;refine .cons _ _ _ _ h2 (VRs.qdR (by simpa using hl) fun i u hu=>?_);obtain ⟨w,h3,h4⟩:=h (i+1) u (by simpa using hu);exact ⟨w,by simpa using h3,h4⟩
theorem VRs.one {f:Emb} {v v':Value} (h:VR f v v'):VRs f [v] [v']:=.cons _ _ _ _ h .nil
theorem VR.jU (f:Emb) (v:Value) (h:jU v=true):VR f v v:=by
 cases v with
 | bool b=>exact .bool b
 | int k n=>exact .int k n
 | float k n=>exact .float k n
 | string s=>exact .string s
 | pointer a=>cases a with
  | none=>exact .nilPointer
  | some a=>simp [Xx.jU] at h
 | slice a l c =>
  cases a with
  | none =>
   cases l with
   | zero=>cases c with
    | zero=>exact .nilSlice
    | succ c=>simp [Xx.jU] at h
   | succ l=>simp [Xx.jU] at h
  | some a=>simp [Xx.jU] at h
 | map r=>cases r with
  | none=>exact .nilMap
  | some r=>simp [Xx.jU] at h
 | func fn first captured =>
  cases fn with
  | func g =>
   simp [Xx.jU] at h
   obtain ⟨rfl,rfl⟩:=h;exact .func g [] [] [] [] .nil .nil
  | method _=>simp [Xx.jU] at h
  | methodOf _ _=>simp [Xx.jU] at h
  | via _ _ _ _=>simp [Xx.jU] at h
  | yield _=>simp [Xx.jU] at h
 | nilFunc=>exact .nilFunc
 | nilIface=>exact .nilIface
 | _=>simp [Xx.jU] at h
theorem VRs.plain (f:Emb):∀ (c:List Value),c.all jU=true→VRs f c c
 | [],_=>.nil
 | v :: r,h=>by simp at h;exact .cons _ _ _ _ (VR.jU f v h.1) (VRs.plain f r (by simpa using h.2))
theorem VR.plain (f:Emb) (v:Value) (h:QJ v=true):VR f v v:=by
 cases v with
 | agg cs=>exact VR.agg (f:=f) cs.toList cs.toList (VRs.plain f _ (by simpa [QJ] using h))
 | _=>exact VR.jU f _ (by simpa [QJ] using h)
theorem VR.cells {f:Emb} {v v':Value} (h:VR f v v'):VRs f v.cells.toList v'.cells.toList:=by
 cases h with
 | agg c c' h=>simpa [Value.cells] using h
 | _=>simp only [Value.cells];refine VRs.one ?_;constructor<;>assumption
theorem VR.one? {f:Emb} {v v':Value} (h:VR f v v'):one? v'=one? v:=by cases h<;>rfl
theorem VRs.one? {f:Emb}:∀ {c c':List Value},VRs f c c'→c'.all one? = c.all one?
 | _,_,.nil=>rfl
 | _,_,.cons _ _ _ _ hv hr=>by simp [VR.one? hv,VRs.one? hr]
def TR (f:Emb) (sz:Nat) (t:Tr Value) (tm:Array Value):Prop :=
 tm.size=sz∧∀ k v,t.get k=some v→∃ v',tm[k]? = some v'∧VR f v v'
def EntR (f:Emb) (e:Value×Value×Nat) (e':MapEntry):Prop:=VR f e.1 e'.key∧VR f e.2.1 e'.val∧e.2.2=e'.born
inductive EsR (f:Emb):List (Value×Value×Nat)→List MapEntry→Prop where
 | nil:EsR f [] []
 | cons {e:Value×Value×Nat} {e':MapEntry} {r:List (Value×Value×Nat)} {r':List MapEntry} (h:EntR f e e') (hr:EsR f r r'):EsR f (e :: r) (e' :: r')
theorem EntR.mono {f g:Emb} (hle:f.le g) {e:Value×Value×Nat} {e':MapEntry} (h:EntR f e e'):EntR g e e':=⟨h.1.mono hle,h.2.1.mono hle,h.2.2⟩
theorem EsR.mono {f g:Emb} (hle:f.le g) {e:List (Value×Value×Nat)} {e':List MapEntry} (h:EsR f e e'):EsR g e e':=by
 induction h with
 | nil=>exact .nil
 | cons h _ ih=>exact .cons (h.mono hle) ih
def ObjR (f:Emb) (L:Loc) (w:World):Qp→Prop
 | .cells c e slk ro=>∃ cc fr,w.heap[L.blk]? = some (.cells cc e fr)∧L.sh+c.length≤cc.size ∧
  (∀ i v,c[i]? = some v→∃ v',cc[L.sh+i]? = some v'∧VR f v v') ∧
  (slk=none→L.slack=0∧(ro=false→L.sh=0∧cc.size=c.length)) ∧
  (∀ k,slk=some k→L.sh+c.length+L.slack*k≤cc.size) ∧
  (ro=false→∀ i,¬ (fr.1≤i∧i<fr.2))
 | .loop st pend sz t ps asg bo=>∃ fn tm D,w.heap[L.blk]? = some (.loop { state:=st,pending:=pend,fn:=fn,tmps:=tm,params:=ps.toArray,assign:=asg,body:=bo,defers:=D })∧TR f sz t tm
 | .map es clock=>∃ es',w.heap[L.blk]? = some (.map es' clock)∧EsR f es es'.toList
 | .dead=>True
def Jc:Qp→Bool
 | .cells _ _ _ ro=>!ro
 | .loop ..=>true
 | .map ..=>true
 | .dead=>false
def live:Qp→Bool
 | .dead=>false
 | _=>true
class Glob where
 ok:Nat→Array Obj→Prop
structure Bs where
 lo:Nat
 ref:Array Obj
section
variable [Glob]
structure Rel (B:Bs) (f:Emb) (h:AH) (w:World):Prop where
 dom:∀ b L,f b=some L→b<h.next
 wf:∀ b,h.next≤b→h.get b=none
 rng:∀ b L,f b=some L→L.blk<w.heap.size
 obj:∀ b L o,f b=some L→h.get b=some o→ObjR f L w o
 inj:∀ b L o b' L' o',f b=some L→h.get b=some o→f b'=some L'→h.get b'=some o'→L.blk=L'.blk→live o=true→Jc o'=true→b=b'
 own:∀ b L o,f b=some L→h.get b=some o→Jc o=true→B.lo≤L.blk
 base:B.lo≤w.heap.size
 keep:∀ k,k<B.lo→w.heap[k]? = B.ref[k]?
 glob:Glob.ok B.lo B.ref
end
structure Turn (f:Emb) (h:AH) (w:World) (f':Emb) (h':AH) (w':World):Prop where
 le:f.le f'
 next:h.next≤h'.next
 low:h'.low≤h.low
 old:∀ b L,f' b=some L→b<h.next→f b=some L
 fresh:∀ b L,f' b=some L→f b=none→w.heap.size≤L.blk∨∃ a M,f a=some M∧M.blk=L.blk∧h'.low≤a
 size:w.heap.size≤w'.heap.size
 keep:∀ k,k<w.heap.size→(∀ b L,f b=some L→L.blk=k→b<h'.low)→w'.heap[k]? = w.heap[k]?
 same:∀ b,b<h.next→b<h'.low→h'.get b=h.get b
 os:w'.os=w.os
 tape:w'.tape=w.tape
 output:w'.output=w.output
theorem Turn.refl (f:Emb) (h:AH) (w:World):Turn f h w f h w :=
 ⟨f.le_refl,zA3 _,zA3 _,fun _ _ e _=>e,fun b L e n=>(by rw [n] at e;cases e),zA3 _,fun _ _ _=>rfl,fun _ _ _=>rfl,rfl,rfl,rfl⟩
theorem Turn.trans {f f1 f2:Emb} {h h1 h2:AH} {w w1 w2:World} (a:Turn f h w f1 h1 w1) (b:Turn f1 h1 w1 f2 h2 w2) (hdom:∀ b L,f b=some L→b<h.next):Turn f h w f2 h2 w2 where
 le:=Emb.le_trans a.le b.le
 next:=zD0 a.next b.next
 low:=zD0 b.low a.low
 old:=fun k L e hk=>a.old k L (b.old k L e (zE4 hk a.next)) hk
 fresh:=fun k L e n=>by
  cases e1:f1 k with
  | some L1 =>
   have:=b.le k L1 e1;rw [e] at this;cases this
   rcases a.fresh k L e1 n with h|⟨p,M,h1,h2,h3⟩
   ·exact .inl h
   ·exact .inr ⟨p,M,h1,h2,zD0 b.low h3⟩
  | none =>
   rcases b.fresh k L e e1 with h|⟨p,M,h1,h2,h3⟩
   ·exact .inl (zD0 a.size h)
   ·cases e0:f p with
    | some M0 =>
     have:=a.le p M0 e0;rw [h1] at this;cases this
     exact .inr ⟨p,M,e0,h2,h3⟩
    | none =>
     rcases a.fresh p M h1 e0 with h|⟨q,N,q1,q2,q3⟩
     ·exact .inl (h2 ▸ h)
     ·exact .inr ⟨q,N,q1,q2.trans h2,zD0 b.low q3⟩
 size:=zD0 a.size b.size
 keep:=fun k hk hq=>by
  have h1:w1.heap[k]? = w.heap[k]?:=a.keep k hk fun p L e1 e2=>zE4 (hq p L e1 e2) b.low;refine (b.keep k (zE4 hk a.size) fun p L e1 e2=>?_).trans h1;cases e0:f p with
  | some M0 =>
   have:=a.le p M0 e0;rw [e1] at this;cases this
   exact hq p L e0 e2
  | none =>
   rcases a.fresh p L e1 e0 with h|⟨q,N,q1,q2,q3⟩
   ·omega
   ·have:=hq q N q1 (q2.trans e2);have:=b.low;omega
 same:=fun k hk hl=>(b.same k (zE4 hk a.next) hl).trans (a.same k hk (zE4 hl b.low))
 os:=b.os.trans a.os
 tape:=b.tape.trans a.tape
 output:=b.output.trans a.output
theorem TR.mono {f g:Emb} {sz:Nat} {t:Tr Value} {tm:Array Value} (hle:f.le g) (h:TR f sz t tm):TR g sz t tm :=
 ⟨h.1,fun k v e=>let ⟨v',h1,h2⟩:=h.2 k v e;⟨v',h1,h2.mono hle⟩⟩
theorem TR.set {f:Emb} {sz:Nat} {t:Tr Value} {tm:Array Value} (h:TR f sz t tm) {k:Nat} (hk:k<sz) {v v':Value} (hv:VR f v v'):TR f sz (t.set k v) (tm.setIfInBounds k v'):=by
 refine ⟨by simp [h.1],fun j u e=>?_⟩;rw [Tr.QM] at e;by_cases hj:j=k
 ·subst hj;rw [if_pos rfl] at e;cases e
  exact ⟨v',by simp [h.1,hk],hv⟩
 ·rw [if_neg hj] at e;obtain ⟨u',h1,h2⟩:=h.2 j u e;exact ⟨u',by rw [Array.getElem?_setIfInBounds_ne (by omega)];exact h1,h2⟩
theorem ObjR.mono {f g:Emb} (hle:f.le g) {L:Loc} {w:World} {o:Qp} (h:ObjR f L w o):ObjR g L w o:=by
 cases o with
 | cells c e slk ro =>
  obtain ⟨cc,fr,h1,h2,h3,h4⟩:=h;exact ⟨cc,fr,h1,h2,fun i v e=>let ⟨v',q1,q2⟩:=h3 i v e;⟨v',q1,q2.mono hle⟩,h4⟩
 | loop st pend sz t ps asg bo =>
  obtain ⟨fn,tm,D,h1,h2⟩:=h;exact ⟨fn,tm,D,h1,h2.mono hle⟩
 | map es clock =>
  obtain ⟨es',h1,h2⟩:=h;exact ⟨es',h1,h2.mono hle⟩
 | dead=>trivial
theorem ObjR.world {f:Emb} {L:Loc} {w w':World} {o:Qp} (hw:w'.heap[L.blk]? = w.heap[L.blk]?) (h:ObjR f L w o):ObjR f L w' o:=by
 cases o with
 | cells c e slk ro=>simpa only [ObjR,hw] using h
 | loop st pend sz t ps asg bo=>simpa only [ObjR,hw] using h
 | map es clock=>simpa only [ObjR,hw] using h
 | dead=>trivial
theorem Rel.low [Glob] {B:Bs} {f:Emb} {h:AH} {w:World} (r:Rel B f h w) (k:Nat):Rel B f { h with low:=k } w :=
 ⟨r.dom,r.wf,r.rng,r.obj,r.inj,r.own,r.base,r.keep,r.glob⟩
end Go.Proofs.Xx
namespace Go.Proofs.Xx
open Go
theorem ZG (a b:Nat):lowest a b≤a:=by
 unfold lowest;cases h:Nat.ble a b with
 | true=>exact zA3 _
 | false =>
  simp only;have:¬ a≤b:=fun q=>by rw [zB3 q] at h;cases h
  omega
theorem jo (a b:Nat):lowest a b≤b:=by
 unfold lowest;cases h:Nat.ble a b with
 | true=>exact zB6 h
 | false=>exact zA3 _
theorem qhB (a b:Nat):lowest a b=a∨lowest a b=b:=by unfold lowest;cases Nat.ble a b<;>simp
theorem AH.qW (h:AH) (o:Qp) (b:Nat):(h.add o).get b=if b=h.next then some o else h.get b:=Tr.QM _ _ _ _
theorem AH.get_put (h:AH) (c:Nat) (o:Qp) (b:Nat):(h.put c o).get b=if b=c then some o else h.get b:=Tr.QM _ _ _ _
structure Wrote (w w':World) (k:Nat) (o:Obj):Prop where
 here:w'.heap[k]? = some o
 other:∀ j,j≠k→w'.heap[j]? = w.heap[j]?
 size:w'.heap.size=w.heap.size
 os:w'.os=w.os
 tape:w'.tape=w.tape
 output:w'.output=w.output
theorem Wrote.same {w:World} {k:Nat} {o:Obj} (h:w.heap[k]? = some o):Wrote w w k o:=⟨h,fun _ _=>rfl,rfl,rfl,rfl,rfl⟩
theorem Wrote.trans {w w1 w2:World} {k:Nat} {o o':Obj} (a:Wrote w w1 k o) (b:Wrote w1 w2 k o'):Wrote w w2 k o' :=
 ⟨b.here,fun j hj=>(b.other j hj).trans (a.other j hj),b.size.trans a.size,b.os.trans a.os,b.tape.trans a.tape,b.output.trans a.output⟩
theorem Rel.put [Glob] {B:Bs} {f:Emb} {h:AH} {w w':World} (r:Rel B f h w) {b:Nat} {L:Loc} {o o':Qp} {ob:Obj} (hf:f b=some L) (hg:h.get b=some o)
 (hw:Jc o=true) (hwr:Wrote w w' L.blk ob) (ho:ObjR f L w' o') (hl:live o'=true→live o=true):Rel B f (h.put b o') w'∧Turn f h w f (h.put b o') w':=by
 have hlv:live o=true:=by cases o<;>simp_all [Jc,live]
 refine ⟨⟨r.dom,fun k hk=>?_,fun k M e=>by rw [hwr.size];exact r.rng k M e,fun k M p e1 e2=>?_,fun k M p k' M' p' e1 e2 e3 e4 e5 e6 e7=>?_,fun k M p e1 e2 e3=>?_,by rw [hwr.size];exact r.base,fun k hk=>(hwr.other k fun q=>by have:=r.own b L o hf hg hw;omega).trans (r.keep k hk),r.glob⟩,?_⟩
 ·rw [AH.get_put,if_neg (by have:=r.dom b L hf;simp only [AH.put] at hk;omega)];exact r.wf k hk
 ·rw [AH.get_put] at e2;by_cases hk:k=b
  ·subst hk;rw [if_pos rfl] at e2;cases e2
   rw [hf] at e1;cases e1
   exact ho
  ·rw [if_neg hk] at e2;by_cases hlp:live p=true
   ·refine (r.obj k M p e1 e2).world (hwr.other _ fun q=>hk (r.inj k M p b L o e1 e2 hf hg q hlp hw))
   ·cases p<;>simp_all [live,ObjR]
 ·rw [AH.get_put] at e2 e4;by_cases hk:k=b
  ·by_cases hk':k'=b
   ·omega
   ·subst hk;rw [hf] at e1;cases e1
    rw [if_neg hk'] at e4;exact r.inj k L o k' M' p' hf hg e3 e4 e5 hlv e7
  ·rw [if_neg hk] at e2;by_cases hk':k'=b
   ·subst hk';rw [hf] at e3;cases e3
    exact r.inj k M p k' L o e1 e2 hf hg e5 e6 hw
   ·rw [if_neg hk'] at e4;exact r.inj k M p k' M' p' e1 e2 e3 e4 e5 e6 e7
 ·rw [AH.get_put] at e2;by_cases hk:k=b
  ·subst hk;rw [hf] at e1;cases e1
   exact r.own k L o hf hg hw
  ·rw [if_neg hk] at e2;exact r.own k M p e1 e2 e3
 ·refine ⟨f.le_refl,zA3 _,ZG _ _,fun _ _ e _=>e,fun k M e n=>(by rw [n] at e;cases e),by rw [hwr.size];exact zA3 _,fun k hk hq=>?_,fun k hk hlo=>?_,hwr.os,hwr.tape,hwr.output⟩
  ·refine hwr.other k fun q=>?_;have h1:=hq b L hf q.symm;have h2:(h.put b o').low≤b:=jo _ _;omega
  ·rw [AH.get_put,if_neg];have h2:(h.put b o').low≤b:=jo _ _;omega
def Emb.put (f:Emb) (n:Nat) (L:Loc):Emb:=fun k=>if k=n then some L else f k
theorem Emb.qL (f:Emb) (n:Nat) (L:Loc):f.put n L n=some L:=if_pos rfl
theorem Emb.qZ (f:Emb) {n k:Nat} (L:Loc) (h:k≠n):f.put n L k=f k:=if_neg h
theorem Rel.qhG [Glob] {B:Bs} {f:Emb} {h:AH} {w:World} (r:Rel B f h w):f h.next=none:=by
 cases e:f h.next with
 | none=>rfl
 | some L=>have:=r.dom _ L e;omega
theorem Rel.QL [Glob] {B:Bs} {f:Emb} {h:AH} {w:World} (r:Rel B f h w) (L:Loc):f.le (f.put h.next L):=by
 intro b M e;rw [Emb.qZ];exact e
 have:=r.dom b M e;omega
structure Pushed (w w':World) (o:Obj):Prop where
 heap:w'.heap=w.heap.push o
 os:w'.os=w.os
 tape:w'.tape=w.tape
 output:w'.output=w.output
theorem Pushed.size {w w':World} {o:Obj} (p:Pushed w w' o):w'.heap.size=w.heap.size+1:=by rw [p.heap];simp
theorem Pushed.old {w w':World} {o:Obj} (p:Pushed w w' o) (k:Nat) (hk:k<w.heap.size):w'.heap[k]? = w.heap[k]?:=by
 rw [p.heap,Array.getElem?_push,if_neg (by omega)]
theorem Pushed.new {w w':World} {o:Obj} (p:Pushed w w' o):w'.heap[w.heap.size]? = some o:=by
 rw [p.heap,Array.getElem?_push,if_pos rfl]
theorem Rel.add [Glob] {B:Bs} {f:Emb} {h:AH} {w w':World} (r:Rel B f h w) {ob:Obj} (hp:Pushed w w' ob) {o:Qp} {s:Nat}
 (ho:ObjR (f.put h.next ⟨w.heap.size,0,s⟩) ⟨w.heap.size,0,s⟩ w' o) :
 Rel B (f.put h.next ⟨w.heap.size,0,s⟩) (h.add o) w'∧Turn f h w (f.put h.next ⟨w.heap.size,0,s⟩) (h.add o) w':=by
 have hle:=r.QL ⟨w.heap.size,0,s⟩;refine ⟨⟨fun b M e=>?_,fun k hk=>?_,fun b M e=>?_,fun b M p e1 e2=>?_,fun k M p k' M' p' e1 e2 e3 e4 e5 e6 e7=>?_,fun k M p e1 e2 e3=>?_,by rw [hp.size];have:=r.base;omega,fun k hk=>(hp.old k (by have:=r.base;omega)).trans (r.keep k hk),r.glob⟩,?_⟩
 ·by_cases hb:b=h.next
  ·subst hb;exact zG0 _
  ·rw [Emb.qZ _ _ hb] at e;exact Nat.lt_succ_of_lt (r.dom b M e)
 ·have hk':h.next+1≤k:=hk
  rw [AH.qW,if_neg (by omega)];exact r.wf k (by omega)
 ·rw [hp.size];by_cases hb:b=h.next
  ·subst hb;rw [Emb.qL] at e;cases e;exact zG0 _
  ·rw [Emb.qZ _ _ hb] at e;exact Nat.lt_succ_of_lt (r.rng b M e)
 ·rw [AH.qW] at e2;by_cases hb:b=h.next
  ·subst hb;rw [Emb.qL] at e1;cases e1;rw [if_pos rfl] at e2;cases e2;exact ho
  ·rw [Emb.qZ _ _ hb] at e1;rw [if_neg hb] at e2;exact ((r.obj b M p e1 e2).world (hp.old _ (r.rng b M e1))).mono hle
 ·rw [AH.qW] at e2 e4;by_cases hk:k=h.next
  ·by_cases hk':k'=h.next
   ·omega
   ·subst hk;rw [Emb.qL] at e1;cases e1
    rw [Emb.qZ _ _ hk'] at e3;have:=r.rng k' M' e3;simp only at e5;omega
  ·rw [Emb.qZ _ _ hk] at e1;rw [if_neg hk] at e2;by_cases hk':k'=h.next
   ·subst hk';rw [Emb.qL] at e3;cases e3
    have:=r.rng k M e1;simp only at e5;omega
   ·rw [Emb.qZ _ _ hk'] at e3;rw [if_neg hk'] at e4;exact r.inj k M p k' M' p' e1 e2 e3 e4 e5 e6 e7
 ·rw [AH.qW] at e2;by_cases hk:k=h.next
  ·subst hk;rw [Emb.qL] at e1;cases e1;exact r.base
  ·rw [Emb.qZ _ _ hk] at e1;rw [if_neg hk] at e2;exact r.own k M p e1 e2 e3
 ·refine ⟨hle,Nat.le_succ _,zA3 _,fun b M e hb=>?_,fun b M e n=>?_,by rw [hp.size];omega,fun k hk _=>hp.old k hk,fun b hb _=>?_,hp.os,hp.tape,hp.output⟩
  ·rw [Emb.qZ _ _ (by omega)] at e;exact e
  ·by_cases hb:b=h.next
   ·subst hb;rw [Emb.qL] at e;cases e;exact .inl (zA3 _)
   ·rw [Emb.qZ _ _ hb,n] at e;cases e
  ·rw [AH.qW,if_neg (by omega)]
theorem Rel.kill [Glob] {B:Bs} {f:Emb} {h:AH} {w:World} (r:Rel B f h w) {b:Nat} {L:Loc} (hf:f b=some L):Rel B f (h.put b .dead) w∧Turn f h w f (h.put b .dead) w:=by
 refine ⟨⟨r.dom,fun k hk=>?_,r.rng,fun k M p e1 e2=>?_,fun k M p k' M' p' e1 e2 e3 e4 e5 e6 e7=>?_,fun k M p e1 e2 e3=>?_,r.base,r.keep,r.glob⟩,?_⟩
 ·rw [AH.get_put,if_neg (by have:=r.dom b L hf;simp only [AH.put] at hk;omega)];exact r.wf k hk
 ·rw [AH.get_put] at e2;by_cases hk:k=b
  ·rw [if_pos hk] at e2;cases e2;trivial
  ·rw [if_neg hk] at e2;exact r.obj k M p e1 e2
 ·rw [AH.get_put] at e2 e4;by_cases hk:k=b
  ·rw [if_pos hk] at e2;cases e2;cases e6
  ·by_cases hk':k'=b
   ·rw [if_pos hk'] at e4;cases e4;cases e7
   ·rw [if_neg hk] at e2;rw [if_neg hk'] at e4;exact r.inj k M p k' M' p' e1 e2 e3 e4 e5 e6 e7
 ·rw [AH.get_put] at e2;by_cases hk:k=b
  ·rw [if_pos hk] at e2;cases e2;cases e3
  ·rw [if_neg hk] at e2;exact r.own k M p e1 e2 e3
 ·refine ⟨f.le_refl,zA3 _,ZG _ _,fun _ _ e _=>e,fun k M e n=>(by rw [n] at e;cases e),zA3 _,fun _ _ _=>rfl,fun k hk hlo=>?_,rfl,rfl,rfl⟩;rw [AH.get_put,if_neg];have h2:(h.put b .dead).low≤b:=jo _ _;omega
theorem Rel.view [Glob] {B:Bs} {f:Emb} {h:AH} {w w':World} (r:Rel B f h w) {a:Nat} {M0:Loc} (ha:f a=some M0) (hlow:h.low≤a)
 (hno:∀ b L o,f b=some L→h.get b=some o→live o=true→L.blk≠M0.blk) (hB:B.lo≤M0.blk) {ob:Obj} (hwr:Wrote w w' M0.blk ob) {o:Qp} {sh s:Nat}
 (ho:ObjR (f.put h.next ⟨M0.blk,sh,s⟩) ⟨M0.blk,sh,s⟩ w' o) :
 Rel B (f.put h.next ⟨M0.blk,sh,s⟩) (h.add o) w'∧Turn f h w (f.put h.next ⟨M0.blk,sh,s⟩) (h.add o) w':=by
 have hle:=r.QL ⟨M0.blk,sh,s⟩;have hrng:=r.rng a M0 ha;refine ⟨⟨fun b M e=>?_,fun k hk=>?_,fun b M e=>?_,fun b M p e1 e2=>?_,fun k M p k' M' p' e1 e2 e3 e4 e5 e6 e7=>?_,fun k M p e1 e2 e3=>?_,by rw [hwr.size];exact r.base,fun k hk=>(hwr.other k (by omega)).trans (r.keep k hk),r.glob⟩,?_⟩
 ·by_cases hb:b=h.next
  ·subst hb;exact zG0 _
  ·rw [Emb.qZ _ _ hb] at e;exact Nat.lt_succ_of_lt (r.dom b M e)
 ·have hk':h.next+1≤k:=hk
  rw [AH.qW,if_neg (by omega)];exact r.wf k (by omega)
 ·rw [hwr.size];by_cases hb:b=h.next
  ·subst hb;rw [Emb.qL] at e;cases e;exact hrng
  ·rw [Emb.qZ _ _ hb] at e;exact r.rng b M e
 ·rw [AH.qW] at e2;by_cases hb:b=h.next
  ·subst hb;rw [Emb.qL] at e1;cases e1;rw [if_pos rfl] at e2;cases e2;exact ho
  ·rw [Emb.qZ _ _ hb] at e1;rw [if_neg hb] at e2;by_cases hlp:live p=true
   ·exact ((r.obj b M p e1 e2).world (hwr.other _ (hno b M p e1 e2 hlp))).mono hle
   ·cases p<;>simp_all [live,ObjR]
 ·rw [AH.qW] at e2 e4;by_cases hk:k=h.next
  ·by_cases hk':k'=h.next
   ·omega
   ·subst hk;rw [Emb.qL] at e1;cases e1
    rw [Emb.qZ _ _ hk'] at e3;rw [if_neg hk'] at e4;exact absurd e5.symm (hno k' M' p' e3 e4 (by cases p'<;>simp_all [Jc,live]))
  ·rw [Emb.qZ _ _ hk] at e1;rw [if_neg hk] at e2;by_cases hk':k'=h.next
   ·subst hk';rw [Emb.qL] at e3;cases e3
    exact absurd e5 (hno k M p e1 e2 e6)
   ·rw [Emb.qZ _ _ hk'] at e3;rw [if_neg hk'] at e4;exact r.inj k M p k' M' p' e1 e2 e3 e4 e5 e6 e7
 ·rw [AH.qW] at e2;by_cases hk:k=h.next
  ·subst hk;rw [Emb.qL] at e1;cases e1;exact hB
  ·rw [Emb.qZ _ _ hk] at e1;rw [if_neg hk] at e2;exact r.own k M p e1 e2 e3
 ·refine ⟨hle,Nat.le_succ _,zA3 _,fun b M e hb=>?_,fun b M e n=>?_,by rw [hwr.size];exact zA3 _,fun k hk hq=>?_,fun b hb _=>?_,hwr.os,hwr.tape,hwr.output⟩
  ·rw [Emb.qZ _ _ (by omega)] at e;exact e
  ·by_cases hb:b=h.next
   ·subst hb;rw [Emb.qL] at e;cases e;exact .inr ⟨a,M0,ha,rfl,hlow⟩
   ·rw [Emb.qZ _ _ hb,n] at e;cases e
  ·refine hwr.other k fun q=>?_;have:=hq a M0 ha q.symm;have h3:(h.add o).low=h.low:=rfl;omega
  ·rw [AH.qW,if_neg (by omega)]
end Go.Proofs.Xx
namespace Go.Proofs.Xx
open Go
def J7 (tm:Array Value):Operand→Value
 | .tmp t=>tm.getD t undef
 | .const v=>v
 | .global g=>.pointer (some ⟨g,0,none⟩)
 | .func f=>.func (.func f) #[] #[]
theorem qC {f:Emb} {sz:Nat} {t:Tr Value} {tm:Array Value} (T:TR f sz t tm) {o:Operand} {v:Value} (h:ja t o=some v):VR f v (J7 tm o):=by
 cases o with
 | tmp k =>
  obtain ⟨v',h1,h2⟩:=T.2 k v h;simp only [J7,zH2,h1,zH6];exact h2
 | const u =>
  simp only [ja] at h;split at h
  ·cases h;exact VR.plain f _ ‹_›
  ·cases h
 | global g=>cases h
 | func g=>cases h;exact .func g [] [] [] [] .nil .nil
theorem ZX {f:Emb} {sz:Nat} {t:Tr Value} {tm:Array Value} (T:TR f sz t tm):∀ {os:List Operand} {vs:List Value},jA t os=some vs→VRs f vs (os.map (J7 tm))
 | [],vs,h=>by cases h;exact .nil
 | o :: r,vs,h=>by
  simp only [jA] at h;split at h
  ·cases h
   exact .cons _ _ _ _ (qC T ‹_›) (ZX T ‹_›)
  ·cases h
section
variable {P:Program}
theorem QB {t:TypeId} {b:Bool} (h:Q3 P t=some b) (w:World):(isAgg t).run P w = .ok b w:=by
 unfold Q3 at h;cases hu:P.underlying t with
 | none=>rw [hu] at h;cases h
 | some d =>
  rw [hu] at h;unfold isAgg;rw [zA5,run_underlying hu];cases d<;>(simp only at h;cases h;rfl)
theorem zA {t:TypeId} {n:Nat} (h:zI P t=some n) (w:World):(sizeOf t).run P w = .ok n w:=by
 unfold zI at h;cases hi:P.info? t with
 | none=>rw [hi] at h;cases h
 | some i=>rw [hi] at h;cases h;simp [sizeOf,typeInfo,hi]
theorem wO {t:TypeId} {z:Value} (h:X5 P t=some z) (w:World):(zeroValue t).run P w = .ok z w:=by
 unfold X5 at h;cases hi:P.info? t with
 | none=>rw [hi] at h;cases h
 | some i=>rw [hi] at h;simp only at h;simp [zeroValue,typeInfo,hi,h]
theorem qgt {t:TypeId} {n:Nat} (h:Qh P t=some n) (w:World):∃ i,P.info? t=some i∧i.bytes=n∧(typeInfo t).run P w = .ok i w:=by
 unfold Qh at h;cases hi:P.info? t with
 | none=>rw [hi] at h;cases h
 | some i=>rw [hi] at h;cases h;exact ⟨i,rfl,rfl,by simp [typeInfo,hi]⟩
theorem jw {e:TypeId} {z:List Value} (h:qV P e=some z):∃ i v,P.info? e=some i∧i.zero=some v∧v.cells.toList=z∧i.size=z.length∧z.length≠0∧QJ v=true:=by
 unfold qV at h;cases hi:P.info? e with
 | none=>rw [hi] at h;cases h
 | some i =>
  rw [hi] at h;simp only at h;cases hz:i.zero with
  | none=>rw [hz] at h;cases h
  | some v =>
   rw [hz] at h;simp only at h;split at h
   ·rename_i hc
    cases h
    simp only [zA8,Nat.beq_eq,zG3] at hc;have h2:v.cells.toList.length=i.size:=hc.1.2;refine ⟨i,v,rfl,hz,rfl,h2.symm,fun q=>?_,hc.1.1⟩;have:=hc.2;rw [← h2,q] at this;cases this
   ·cases h
theorem QH {t e:TypeId} (h:qQ P t=some e):P.underlying t=some (.slice e):=by
 unfold qQ at h;split at h
 ·cases h;assumption
 ·cases h
theorem Yr {h:AH} {a:Value} {b o:Nat} {c:List Value} {e:TypeId} {s:Option Nat} {r:Bool} (hc:Q8 h a=some (b,o,c,e,s,r)):a = .pointer (some ⟨b,o,none⟩)∧h.get b=some (.cells c e s r):=by
 unfold Q8 at hc;split at hc
 ·split at hc
  ·cases hc;exact ⟨rfl,by assumption⟩
  ·cases hc
 ·cases hc
theorem Jg {c:List Value} {o n:Nat} {xs:List Value} (h:zn c o n=some xs):xs=(c.drop o).take n∧xs.length=n∧(n=0∨o+n≤c.length):=by
 unfold zn at h;simp only at h;split at h
 ·rename_i hb
  cases h
  have:=zA6 hb;refine ⟨rfl,this,?_⟩;rw [zA9,zB4] at this;omega
 ·cases h
theorem jI (b o n:Nat):(⟨b,o,none⟩:Addr).add n=⟨b,o+n,none⟩:=by
 unfold Addr.add;split
 ·subst_vars;rfl
 ·rfl
theorem VR.zM {f:Emb} {b o:Nat} {v:Value} (h:VR f (.pointer (some ⟨b,o,none⟩)) v):∃ L,f b=some L∧v = .pointer (some ⟨L.blk,L.sh+o,none⟩):=by
 cases h with
 | pointer b o L hb=>exact ⟨L,hb,rfl⟩
theorem VR.jm {f:Emb} {b o len cap:Nat} {v:Value} (h:VR f (.slice (some ⟨b,o,none⟩) len cap) v) :
 ∃ L a,f b=some L∧v = .slice (some a) len (cap+L.slack)∧len≤cap∧(a=⟨L.blk,L.sh+o,none⟩∨(cap=0∧L.slack=0)):=by
 cases h with
 | slice b o a len cap L hb hl ho=>exact ⟨L,a,hb,rfl,hl,ho⟩
theorem ObjR.seg {f:Emb} {L:Loc} {w:World} {c:List Value} {e:TypeId} {s:Option Nat} {r:Bool} (h:ObjR f L w (.cells c e s r)) {o n:Nat} {xs:List Value} (ht:zn c o n=some xs) :
 ∃ xs',VRs f xs xs'∧xs'.length=n∧∀ (j:Nat) v,xs'[j]? = some v→w.cell? ⟨L.blk,L.sh+o+j,none⟩=some v:=by
 obtain ⟨cc,fr,h1,h2,h3,-⟩:=h;obtain ⟨rfl,hn,hb⟩:=Jg ht;refine ⟨(cc.toList.drop (L.sh+o)).take n,VRs.qdR ?_ fun i v hi=>?_,?_,fun j v hj=>?_⟩
 ·rw [hn,zA9,zB4,zC2];rcases hb with hb|hb<;>omega
 ·rw [zC7] at hi;split at hi
  ·rename_i hlt
   rw [zC3] at hi;obtain ⟨v',q1,q2⟩:=h3 (o+i) v hi;refine ⟨v',?_,q2⟩;rw [zC7,if_pos hlt,zC3,zC1,zF7];exact q1
  ·cases hi
 ·rw [zA9,zB4,zC2];rcases hb with hb|hb<;>omega
 ·rw [zC7] at hj;split at hj
  ·rw [zC3,zC1] at hj;simp only [World.cell?,h1];simpa using hj
  ·cases hj
theorem ObjR.cell {f:Emb} {L:Loc} {w:World} {c:List Value} {e:TypeId} {s:Option Nat} {r:Bool} (h:ObjR f L w (.cells c e s r)) {o:Nat} {v:Value} (ho:c[o]? = some v) :
 ∃ v',VR f v v'∧w.cell? ⟨L.blk,L.sh+o,none⟩=some v':=by
 obtain ⟨cc,fr,h1,h2,h3,-⟩:=h;obtain ⟨v',q1,q2⟩:=h3 o v ho;exact ⟨v',q2,by simp only [World.cell?,h1];simpa using q1⟩
theorem jY {w:World} {b o n:Nat} {xs:List Value} (hl:xs.length=n) (h:∀ (j:Nat) v,xs[j]? = some v→w.cell? ⟨b,o+j,none⟩=some v) :
 (loadCells ⟨b,o,none⟩ n).run P w = .ok xs.toArray w:=by
 subst hl;exact run_loadCells_list w _ xs fun j v e=>by rw [jI];exact h j v e
theorem Wy [Glob] {B:Bs} {f:Emb} {h:AH} {w:World} (r:Rel B f h w) {t:TypeId} {a a' v:Value} (hl:Z8 P t a h=some v) (ha:VR f a a') :
 ∃ v',(Instr.loadAt t a').run P w = .ok v' w∧VR f v v':=by
 unfold Z8 at hl;split at hl
 ·rename_i b o c e s ro hc
  obtain ⟨rfl,hg⟩:=Yr hc;obtain ⟨L,hL,rfl⟩:=ha.zM;have hO:=r.obj b L _ hL hg;split at hl
  ·rename_i hagg
   split at hl
   ·rename_i n hn
    split at hl
    ·rename_i xs hxs
     cases hl
     obtain ⟨xs',q1,q2,q3⟩:=hO.seg hxs;refine ⟨.agg xs'.toArray,?_,.agg _ _ q1⟩;simp only [Instr.loadAt,Instr.sureAddr,zA5,zB1,zA1,loadVar,QB hagg,if_true,zA hn,jY q2 q3]
    ·cases hl
   ·cases hl
  ·rename_i hagg
   obtain ⟨v',q1,q2⟩:=hO.cell hl;refine ⟨v',?_,q1⟩;simp only [Instr.loadAt,Instr.sureAddr,zA5,zB1,zA1,loadVar,QB hagg,zD9,if_false,run_load,q2]
  ·cases hl
 ·cases hl
theorem jg (c:List Value) (o:Nat) (xs:List Value) (h:o+xs.length≤c.length) (i:Nat) :
 (splice c o xs)[i]? = if i<o then c[i]? else if i<o+xs.length then xs[i - o]? else c[i]?:=by
 unfold splice;rw [zF0,zA9];by_cases h1:i<o
 ·rw [if_pos (by omega),if_pos h1,zC7,if_pos h1]
 ·rw [if_neg (by omega),if_neg h1,zF0];have h2:min o c.length=o:=by omega
  rw [h2];by_cases h3:i<o+xs.length
  ·rw [if_pos (by omega),if_pos h3]
  ·rw [if_neg (by omega),if_neg h3,zC3];congr 1;omega
theorem zx (c:List Value) (o:Nat) (xs:List Value) (h:o+xs.length≤c.length):(splice c o xs).length=c.length:=by
 unfold splice;simp only [zB2,zA9,zB4];omega
theorem VRs.splice {f:Emb} {c c' xs xs':List Value} (h:VRs f c c') (hx:VRs f xs xs') (o:Nat):VRs f (Xx.splice c o xs) (Xx.splice c' o xs'):=by
 unfold Xx.splice;rw [hx.length];exact (h.take o).append (hx.append (h.drop _))
theorem one?_eq (v:Value):one? v=v.oneCell':=by cases v<;>rfl
theorem jL {b o:Nat} {e:TypeId} {fr:Nat×Nat}:∀ (vs:List Value) (i:Nat) (cc:Array Value) (w:World),w.heap[b]? = some (.cells cc e fr) →
 (vs.all one? = true)→o+i+vs.length≤cc.size→(∀ j,¬ (fr.1≤j∧j<fr.2)) →
 ∃ w',(storeCells ⟨b,o,none⟩ vs i).run P w = .ok () w'∧Wrote w w' b (.cells (Xx.splice cc.toList (o+i) vs).toArray e fr)
 | [],i,cc,w,hb,_,hl,_=>by
  refine ⟨w,rfl,?_⟩;have h1:Xx.splice cc.toList (o+i) []=cc.toList:=by unfold Xx.splice;simp
  rw [h1];exact Wrote.same (by simpa using hb)
 | v :: rest,i,cc,w,hb,h1,hl,hfr=>by
  simp only [List.all_cons,zA8] at h1;simp only [zC4] at hl;have hi:o+i<cc.size:=by omega
  have hcell:w.cell? ⟨b,o+i,none⟩=some cc[o+i]:=by simp [World.cell?,hb,hi]
  have hfro:w.frozen? ⟨b,o+i,none⟩=false:=by
   simp only [World.frozen?,hb];have:=hfr (o+i);cases hq:(decide (fr.1≤o+i) && decide (o+i<fr.2)) with
   | false=>rfl
   | true=>simp at hq;exact absurd hq this
  have hst:(store ((⟨b,o,none⟩:Addr).add i) v).run P w = .ok () (w.setRow b (cc.setIfInBounds (o+i) v)):=by
   rw [jI,run_store P w _ v _ (by rw [← one?_eq];exact h1.1),hcell];simp [hfro,setCell_eq_setRow w b (o+i) cc e fr v hb]
  have hw1:Wrote w (w.setRow b (cc.setIfInBounds (o+i) v)) b (.cells (cc.setIfInBounds (o+i) v) e fr) :=
   ⟨setRow_heap w b cc _ e fr hb,fun j hj=>setRow_other w b j _ hj,by simp,rfl,rfl,rfl⟩
  obtain ⟨w2,q1,q2⟩:=jL (o:=o) rest (i+1) (cc.setIfInBounds (o+i) v) _ hw1.here h1.2 (by simp;omega) hfr;refine ⟨w2,?_,?_⟩
  ·simp only [storeCells,zA5,hst,zA1,q1]
  ·have:=hw1.trans q2;have heq:Xx.splice (cc.setIfInBounds (o+i) v).toList (o+(i+1)) rest=Xx.splice cc.toList (o+i) (v :: rest):=by
    apply List.ext_getElem?
    intro k;rw [jg _ _ _ (by simp;omega),jg _ _ _ (by simp;omega)];simp only [Array.toList_setIfInBounds,zC4];by_cases k1:k<o+i
    ·rw [if_pos (by omega),if_pos k1,List.getElem?_set_ne (by omega)]
    ·rw [if_neg k1];by_cases k2:k=o+i
     ·subst k2;rw [if_pos (by omega),if_pos (by omega),List.getElem?_set_self (by simpa using hi)];simp
     ·rw [if_neg (by omega)];by_cases k3:k<o+i+(rest.length+1)
      ·rw [if_pos (by omega),if_pos k3];rw [show k - (o+i)=(k - (o+(i+1)))+1 by omega];simp
      ·rw [if_neg (by omega),if_neg k3,List.getElem?_set_ne (by omega)]
   rw [heq] at this;exact this
theorem QI [Glob] {B:Bs} {f:Emb} {h h':AH} {w:World} (r:Rel B f h w) {b o:Nat} {c:List Value} {e:TypeId} {s:Option Nat} {xs xs':List Value} {L:Loc}
 (hL:f b=some L) (hg:h.get b=some (.cells c e s false)) (hp:putCells h b o c e s xs=some h') (hx:VRs f xs xs') :
 ∃ w',(storeCells ⟨L.blk,L.sh+o,none⟩ xs').run P w = .ok () w'∧Rel B f h' w'∧Turn f h w f h' w':=by
 unfold putCells at hp;split at hp
 ·rename_i hc
  cases hp
  simp only [zA8] at hc;have hle:=zB6 hc.2;have hO:=r.obj b L _ hL hg;obtain ⟨cc,fr,h1,h2,h3,h4,h5,h6⟩:=hO;obtain ⟨w',q1,q2⟩:=jL (P:=P) (o:=L.sh+o) xs' 0 cc w h1 (by rw [hx.one?];exact hc.1) (by rw [hx.length];omega) (h6 rfl);refine ⟨w',q1,?_⟩;refine r.put hL hg rfl q2 ?_ (fun _=>rfl);rw [Nat.add_zero] at q2;have hlen:L.sh+o+xs'.length≤cc.toList.length:=by
   have e1:cc.toList.length=cc.size:=zC2;have e2:=hx.length;omega
  refine ⟨_,fr,q2.here,?_,fun i v hi=>?_,fun hs=>?_,fun k hk=>?_,h6⟩
  ·simp only [zE6,zx _ _ _ hlen,zC2,zx _ _ _ hle];exact h2
  ·rw [jg _ _ _ hle] at hi;simp only [List.getElem?_toArray,jg _ _ _ hlen,hx.length];by_cases i1:i<o
   ·rw [if_pos i1] at hi;rw [if_pos (by omega),zC1];exact h3 i v hi
   ·rw [if_neg i1] at hi;by_cases i2:i<o+xs.length
    ·rw [if_pos i2] at hi;rw [if_neg (by omega),if_pos (by omega)];obtain ⟨v',p1,p2⟩:=hx.get _ _ hi;exact ⟨v',by rw [show L.sh+i - (L.sh+o)=i - o by omega];exact p1,p2⟩
    ·rw [if_neg i2] at hi;rw [if_neg (by omega),if_neg (by omega),zC1];exact h3 i v hi
  ·obtain ⟨p1,p2⟩:=h4 hs;refine ⟨p1,fun q=>?_⟩;obtain ⟨p3,p4⟩:=p2 rfl;refine ⟨p3,?_⟩;simp only [zE6,zx _ _ _ hlen,zC2,zx _ _ _ hle];exact p4
  ·simp only [zE6,zx _ _ _ hlen,zC2,zx _ _ _ hle];exact h5 k hk
 ·cases hp
theorem Gl [Glob] {B:Bs} {f:Emb} {h h':AH} {w:World} (r:Rel B f h w) {t:TypeId} {a a' v v':Value} (hl:JR P t a v h=some h') (ha:VR f a a') (hv:VR f v v') :
 ∃ w',(Instr.storeAt t a' v').run P w = .ok () w'∧Rel B f h' w'∧Turn f h w f h' w':=by
 unfold JR at hl;split at hl
 ·rename_i b o c e s hc
  obtain ⟨rfl,hg⟩:=Yr hc;obtain ⟨L,hL,rfl⟩:=ha.zM;split at hl
  ·rename_i n hn
   split at hl
   ·rename_i hb
    obtain ⟨w',q1,q2⟩:=QI (P:=P) r hL hg hl hv.cells;refine ⟨w',?_,q2⟩;have hsz:v'.cells.size=n:=by
     have h1:=hv.cells.length;have h2:=zA6 hb;rw [zC2] at h1;omega
    simp only [Instr.storeAt,Instr.sureAddr,zA5,zB1,zA1,storeVar,zA hn,ne_eq,hsz,not_true,if_false,q1]
   ·cases hl
  ·cases hl
 ·cases hl
theorem ObjR.fresh {f:Emb} {w w':World} {c c':List Value} {e:TypeId} (hp:Pushed w w' (.cells c'.toArray e)) (hc:VRs f c c') (ro:Bool):ObjR f ⟨w.heap.size,0,0⟩ w' (.cells c e none ro):=by
 refine ⟨c'.toArray,(0,0),hp.new,by simp [hc.length],fun i v hi=>?_,fun _=>⟨rfl,fun _=>⟨rfl,by simp [hc.length]⟩⟩,(fun k hk=>by cases hk),(fun _ i q=>by simp at q)⟩;obtain ⟨v',q1,q2⟩:=hc.get i v hi;exact ⟨v',by simpa using q1,q2⟩
theorem Rel.new [Glob] {B:Bs} {f:Emb} {h:AH} {w w':World} (r:Rel B f h w) {c c':List Value} {e:TypeId} (hc:VRs f c c') (hp:Pushed w w' (.cells c'.toArray e)) :
 Rel B (f.put h.next ⟨w.heap.size,0,0⟩) (h.add (.cells c e none false)) w'∧Turn f h w (f.put h.next ⟨w.heap.size,0,0⟩) (h.add (.cells c e none false)) w' :=
 r.add hp (ObjR.fresh hp (hc.mono (r.QL _)) false)
theorem zU (w:World) (o:Obj):Pushed w { w with heap:=w.heap.push o } o:=⟨rfl,rfl,rfl,rfl⟩
theorem YW [Glob] {B:Bs} {f:Emb} {h:AH} {w:World} (r:Rel B f h w) (e:TypeId) {v v':Value} (hv:VR f v v') :
 ∃ f' w',(newVar e v').run P w = .ok ⟨w.heap.size,0,none⟩ w'∧Rel B f' (Gn e v.cells.toList h).2 w'∧Turn f h w f' (Gn e v.cells.toList h).2 w'∧VR f' (Gn e v.cells.toList h).1 (.pointer (some ⟨w.heap.size,0,none⟩)):=by
 have hp:=zU w (.cells v'.cells.toList.toArray e);obtain ⟨q1,q2⟩:=r.new hv.cells hp;refine ⟨_,_,?_,q1,q2,?_⟩
 ·simp only [newVar,newRow,zA5,run_newObj,zA1,Array.toArray_toList];rfl
 ·exact VR.pointer h.next 0 ⟨w.heap.size,0,0⟩ (Emb.qL _ _ _)
end
end Go.Proofs.Xx
