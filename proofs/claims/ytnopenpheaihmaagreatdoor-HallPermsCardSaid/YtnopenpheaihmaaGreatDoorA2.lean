/-
  The checked run: what a program does, step by step, on an abstract memory in which blocks bear numbers of their own.
-/
import Derived.Test.YtnopenpheaihmaaGreatDoorA1
import GoSem.Dispatch
namespace Go.Proofs.Xx
open Go
set_option linter.unusedSimpArgs false
set_option linter.unusedVariables false

inductive AObj where
  | cells (c : List Value) (elem : TypeId) (slk : Option Nat) (ro : Bool)
  | loop (state : LoopState) (pending : Option Code) (sz : Nat) (tmps : Tr Value) (params : List Tmp) (assign body : Code)
  | dead

structure AH where
  tr : Tr AObj
  next : Nat
  low : Nat

def AH.get (h : AH) (b : Nat) : Option AObj := h.tr.get b
def AH.add (h : AH) (o : AObj) : AH := { tr := h.tr.set h.next o, next := h.next + 1, low := h.low }
def lowest (a b : Nat) : Nat := match Nat.ble a b with | true => a | false => b
def AH.put (h : AH) (b : Nat) (o : AObj) : AH := { tr := h.tr.set b o, next := h.next, low := lowest h.low b }

/-- A value that bears no address. -/
def plain1 : Value → Bool
  | .bool _ | .int _ _ | .string _ | .pointer none | .slice none 0 0 | .map none | .nilFunc | .nilIface | .float _ _ => true
  | .func (.func _) first captured => first.isEmpty && captured.isEmpty
  | _ => false
def plainV : Value → Bool
  | .agg cs => cs.toList.all plain1
  | v => plain1 v

def one? : Value → Bool
  | .agg _ | .tuple _ => false
  | _ => true

def splice (c : List Value) (o : Nat) (xs : List Value) : List Value := c.take o ++ (xs ++ c.drop (o + xs.length))

def isAggT (P : Program) (t : TypeId) : Option Bool :=
  match P.underlying t with
  | some (.struct _) | some (.array _ _) => some true
  | some _ => some false
  | none => none
def sizeT (P : Program) (t : TypeId) : Option Nat := match P.info? t with | some i => some i.size | none => none

def cellsAt (h : AH) : Value → Option (Nat × Nat × List Value × TypeId × Option Nat × Bool)
  | .pointer (some ⟨b, o, none⟩) => match h.get b with
    | some (.cells c e s r) => some (b, o, c, e, s, r)
    | _ => none
  | _ => none

def takeAt (c : List Value) (o n : Nat) : Option (List Value) :=
  let xs := (c.drop o).take n
  match Nat.beq xs.length n with
  | true => some xs
  | false => none

def aLoad (P : Program) (t : TypeId) (a : Value) (h : AH) : Option Value :=
  match cellsAt h a with
  | some (_, o, c, _, _, _) =>
    match isAggT P t with
    | some true => match sizeT P t with
      | some n => match takeAt c o n with
        | some xs => some (.agg xs.toArray)
        | none => none
      | none => none
    | some false => c[o]?
    | none => none
  | none => none

def putCells (h : AH) (b o : Nat) (c : List Value) (e : TypeId) (s : Option Nat) (xs : List Value) : Option AH :=
  match xs.all one? && Nat.ble (o + xs.length) c.length with
  | true => some (h.put b (.cells (splice c o xs) e s false))
  | false => none

def aStore (P : Program) (t : TypeId) (a v : Value) (h : AH) : Option AH :=
  match cellsAt h a with
  | some (b, o, c, e, s, false) => match sizeT P t with
    | some n => match Nat.beq v.cells.toList.length n with
      | true => putCells h b o c e s v.cells.toList
      | false => none
    | none => none
  | _ => none

def zeroT (P : Program) (t : TypeId) : Option Value := match P.info? t with | some i => i.zero | none => none

def aNew (e : TypeId) (c : List Value) (h : AH) : Value × AH := (.pointer (some ⟨h.next, 0, none⟩), h.add (.cells c e none false))

def fillL (place : Nat → Option (Nat × Nat)) (c : List Value) : List (Nat × Value) → Option (List Value)
  | [] => some c
  | (i, v) :: rest =>
    match place i with
    | none => none
    | some (off, size) =>
      match Nat.beq v.cells.toList.length size && Nat.ble (off + size) c.length with
      | true => fillL place (splice c off v.cells.toList) rest
      | false => none

def placesT (P : Program) : List Field → Option (List (Nat × Nat))
  | [] => some []
  | f :: fs => match sizeT P f.type, placesT P fs with
    | some n, some r => some ((f.offset, n) :: r)
    | _, _ => none

def aBuild (P : Program) (t : TypeId) (parts : List (Nat × Value)) : Option Value :=
  match zeroT P t with
  | some z => match plainV z with
    | true => match P.underlying t with
      | some (.struct fs) => match placesT P fs.toList with
        | some ps => match fillL (fun i => ps[i]?) z.cells.toList parts with
          | some c => some (.agg c.toArray)
          | none => none
        | none => none
      | some (.array _ e) => match sizeT P e with
        | some n => match fillL (fun i => some (i * n, n)) z.cells.toList parts with
          | some c => some (.agg c.toArray)
          | none => none
        | none => none
      | _ => none
    | false => none
  | none => none

/-- The cells of k zero values. -/
def zeroRow (z : List Value) : Nat → List Value
  | 0 => []
  | k + 1 => z ++ zeroRow z k

def sliceElem (P : Program) (t : TypeId) : Option TypeId := match P.underlying t with | some (.slice e) => some e | _ => none

/-- A type's zero value, its cells and its size, where they fit. -/
def zeroCellsT (P : Program) (e : TypeId) : Option (List Value) :=
  match P.info? e with
  | some i => match i.zero with
    | some z => match plainV z && Nat.beq z.cells.toList.length i.size && !Nat.beq i.size 0 with
      | true => some z.cells.toList
      | false => none
    | none => none
  | none => none

def aBuildSlice (P : Program) (t : TypeId) (len : Nat) (parts : List (Nat × Value)) (h : AH) : Option (Value × AH) :=
  match sliceElem P t with
  | some e => match zeroCellsT P e with
    | some z => match Nat.ble (len * z.length) 16777216 with
      | true => match fillL (fun i => some (i * z.length, z.length)) (zeroRow z len) parts with
        | some c => some (.slice (some ⟨h.next, 0, none⟩) len len, h.add (.cells c e none false))
        | none => none
      | false => none
    | none => none
  | none => none

def bytesT (P : Program) (t : TypeId) : Option Nat := match P.info? t with | some i => some i.bytes | none => none

def aMakeSlice (P : Program) (t : TypeId) (len cap : Value) (h : AH) : Option (Value × AH) :=
  match len, cap with
  | .int .i64 (.ofNat l), .int .i64 (.ofNat c) => match sliceElem P t with
    | some e => match zeroCellsT P e, bytesT P e with
      | some z, some by_ => match Nat.ble l c && Nat.ble (c * (by_ + 1)) 1099511627776 with
        | true => some (.slice (some ⟨h.next, 0, none⟩) l c, h.add (.cells (zeroRow z c) e none false))
        | false => none
      | _, _ => none
    | none => none
  | _, _ => none

def aField (P : Program) (t : TypeId) (x : Value) (f : Nat) : Option Value :=
  match x, P.underlying t with
  | .agg cs, some (.struct fs) => match fs[f]? with
    | some fd => match isAggT P fd.type with
      | some true => match sizeT P fd.type with
        | some n => match takeAt cs.toList fd.offset n with
          | some xs => some (.agg xs.toArray)
          | none => none
        | none => none
      | some false => cs.toList[fd.offset]?
      | none => none
    | none => none
  | _, _ => none

def aFieldAddr (P : Program) (t : TypeId) (x : Value) (f : Nat) : Option Value :=
  match x, P.underlying t with
  | .pointer (some ⟨b, o, none⟩), some (.struct fs) => match fs[f]? with
    | some fd => match sizeT P fd.type with
      | some (_ + 1) => some (.pointer (some ⟨b, o + fd.offset, none⟩))
      | _ => none
    | none => none
  | _, _ => none

def aIndexAddr (P : Program) (t : TypeId) (x i : Value) : Option Value :=
  match x, i, P.underlying t with
  | .pointer (some ⟨b, o, none⟩), .int _ (.ofNat k), some (.array len e) => match Nat.blt k len, sizeT P e with
    | true, some n => some (.pointer (some ⟨b, o + k * n, none⟩))
    | _, _ => none
  | .slice (some ⟨b, o, none⟩) len _, .int _ (.ofNat k), some (.slice e) => match Nat.blt k len, sizeT P e with
    | true, some n => some (.pointer (some ⟨b, o + k * n, none⟩))
    | _, _ => none
  | _, _, _ => none

def aIndex (P : Program) (t : TypeId) (x i : Value) : Option Value :=
  match x, i, P.underlying t with
  | .string s, .int _ (.ofNat k), some .string => match s.data.toList[k]? with
    | some b => some (.int .u8 b.toNat)
    | none => none
  | .agg cs, .int _ (.ofNat k), some (.array len e) => match Nat.blt k len, isAggT P e, sizeT P e with
    | true, some true, some n => match takeAt cs.toList (k * n) n with
      | some xs => some (.agg xs.toArray)
      | none => none
    | true, some false, some n => cs.toList[k * n]?
    | _, _, _ => none
  | _, _, _ => none

def eqBytes (x y : ByteArray) : Bool := x.data.toList == y.data.toList

def cmpInt (op : BinOp) (x y : Int) : Option Bool :=
  match op with
  | .eql => some (x == y)
  | .neq => some (x != y)
  | .lss => some (decide (x < y))
  | .leq => some (decide (x ≤ y))
  | .gtr => some (decide (x > y))
  | .geq => some (decide (x ≥ y))
  | _ => none

/-- Two values of a type without addresses, compared cell by cell. -/
def eqCell : Value → Value → Option Bool
  | .bool a, .bool b => some (a == b)
  | .int k a, .int k' b => match decide (k = k') with | true => some (a == b) | false => none
  | .string a, .string b => some (eqBytes a b)
  | _, _ => none

def aBin (P : Program) (op : BinOp) (t : TypeId) (x y : Value) : Option Value :=
  match x, y with
  | .int k a, .int k' b =>
    match op with
    | .shl => match decide (b < 0) with | true => none | false => some (.int k (k.wrap (a * 2 ^ (min b.toNat k.bits))))
    | .shr => match decide (b < 0) with | true => none | false => some (.int k (a.fdiv (2 ^ (min b.toNat k.bits))))
    | _ => match decide (k = k') with
      | false => none
      | true => match op with
        | .add => some (.int k (k.wrap (a + b)))
        | .sub => some (.int k (k.wrap (a - b)))
        | .mul => some (.int k (k.wrap (a * b)))
        | .quo => match decide (b = 0) with | true => none | false => some (.int k (k.wrap (a.tdiv b)))
        | .rem => match decide (b = 0) with | true => none | false => some (.int k (a.tmod b))
        | .and => some (.int k (k.wrap (BitVec.ofInt k.bits a &&& BitVec.ofInt k.bits b).toNat))
        | .or => some (.int k (k.wrap (BitVec.ofInt k.bits a ||| BitVec.ofInt k.bits b).toNat))
        | .xor => some (.int k (k.wrap (BitVec.ofInt k.bits a ^^^ BitVec.ofInt k.bits b).toNat))
        | .andNot => some (.int k (k.wrap (BitVec.ofInt k.bits a &&& ~~~BitVec.ofInt k.bits b).toNat))
        | op => match cmpInt op a b with | some r => some (.bool r) | none => none
  | .string a, .string b =>
    match op with
    | .add => match Nat.ble (a.data.toList.length + b.data.toList.length) 4611686018427387904 with
      | true => some (.string ⟨(a.data.toList ++ b.data.toList).toArray⟩)
      | false => none
    | .eql => some (.bool (eqBytes a b))
    | .neq => some (.bool !(eqBytes a b))
    | .lss => some (.bool (Op.bytesLess a.data.toList b.data.toList))
    | .leq => some (.bool (Op.bytesLess a.data.toList b.data.toList || eqBytes a b))
    | .gtr => some (.bool !(Op.bytesLess a.data.toList b.data.toList || eqBytes a b))
    | .geq => some (.bool !(Op.bytesLess a.data.toList b.data.toList))
    | _ => none
  | .bool a, .bool b => match P.underlying t, op with
    | some .bool, .eql => some (.bool (a == b))
    | some .bool, .neq => some (.bool !(a == b))
    | _, _ => none
  | .slice a _ _, .slice none 0 0 => match P.underlying t, op with
    | some (.slice _), .eql => some (.bool a.isNone)
    | some (.slice _), .neq => some (.bool !a.isNone)
    | _, _ => none
  | .pointer a, .pointer none => match P.underlying t, op with
    | some (.pointer _), .eql => some (.bool a.isNone)
    | some (.pointer _), .neq => some (.bool !a.isNone)
    | _, _ => none
  | .pointer (some ⟨b, o, none⟩), .pointer (some ⟨b', o', none⟩) => match P.underlying t, op with
    | some (.pointer e), .eql => match Nat.beq b b', sizeT P e with
      | true, some (_ + 1) => some (.bool (Nat.beq o o'))
      | _, _ => none
    | some (.pointer e), .neq => match Nat.beq b b', sizeT P e with
      | true, some (_ + 1) => some (.bool !(Nat.beq o o'))
      | _, _ => none
    | _, _ => none
  | _, _ => none

def aUn (op : UnOp) (x : Value) : Option Value :=
  match op, x with
  | .not, .bool b => some (.bool !b)
  | .neg, .int k n => some (.int k (k.wrap (0 - n)))
  | _, _ => none

def aConvert (P : Program) (src dst : TypeId) (x : Value) : Option Value :=
  match P.underlying src, P.underlying dst, x with
  | some (.int _), some (.int k), .int _ n => some (.int k (k.wrap n))
  | some .string, some .string, .string s => some (.string s)
  | _, _, _ => none

/-- []byte to string. -/
def byteOf? : Value → Option UInt8
  | .int .u8 (.ofNat n) => some (UInt8.ofNat n)
  | _ => none
def bytesOf? : List Value → Option (List UInt8)
  | [] => some []
  | v :: r => match byteOf? v, bytesOf? r with
    | some b, some s => some (b :: s)
    | _, _ => none

def aToString (P : Program) (src dst : TypeId) (x : Value) (h : AH) : Option Value :=
  match P.underlying src, P.underlying dst, x with
  | some (.slice e), some .string, .slice none 0 0 => match P.underlying e with
    | some (.int .u8) => some (.string ⟨#[]⟩)
    | _ => none
  | some (.slice e), some .string, .slice (some ⟨b, o, none⟩) len _ => match P.underlying e with
    | some (.int .u8) => match h.get b with
      | some (.cells c _ _ _) => match takeAt c o len with
        | some xs => match bytesOf? xs with
          | some s => some (.string ⟨s.toArray⟩)
          | none => none
        | none => none
      | _ => none
    | _ => none
  | _, _, _ => none

/-- A pointer to unsafe.Pointer and back. -/
def aUnsafePtr (P : Program) (src dst : TypeId) (x : Value) (h : AH) : Option Value :=
  match P.underlying src, P.underlying dst, x with
  | some (.pointer t), some .unsafePointer, .pointer (some ⟨b, o, none⟩) => match h.get b, sizeT P t with
    | some (.cells c _ _ _), some (_ + 1) => match Nat.blt o c.length with
      | true => some (.pointer (some ⟨b, o, none⟩))
      | false => none
    | _, _ => none
  | some .unsafePointer, some (.pointer u), .pointer (some ⟨b, o, none⟩) => match h.get b, sizeT P u with
    | some (.cells c e none false), some (_ + 1) => match liesAt P P.depth e (c.length / P.cellsOf e) o u 1 with
      | true => some (.pointer (some ⟨b, o, none⟩))
      | false => none
    | _, _ => none
  | _, _, _ => none

def boundOf (x : Option Value) (d : Nat) : Option Nat :=
  match x with
  | none => some d
  | some (.int _ (.ofNat n)) => some n
  | _ => none

def aSlice (P : Program) (t : TypeId) (x : Value) (lo hi mx : Option Value) (h : AH) : Option Value :=
  match P.underlying t, x, mx with
  | some .string, .string s, none => match boundOf lo 0, boundOf hi s.data.toList.length with
    | some l, some r => match Nat.ble l r && Nat.ble r s.data.toList.length with
      | true => some (.string ⟨((s.data.toList.drop l).take (r - l)).toArray⟩)
      | false => none
    | _, _ => none
  | some (.slice e), .slice none 0 0, none => match boundOf lo 0, boundOf hi 0, sizeT P e with
    | some 0, some 0, some _ => some (.slice none 0 0)
    | _, _, _ => none
  | some (.slice e), .slice (some ⟨b, o, none⟩) len cap, none => match h.get b, sizeT P e with
    | some (.cells _ _ slk _), some n => match boundOf lo 0, boundOf hi len with
      | some l, some r => match Nat.ble l r && Nat.ble r cap with
        | true => match slk.isNone && Nat.beq l cap with
          | true => some (.slice (some ⟨b, o, none⟩) (r - l) (cap - l))
          | false => some (.slice (some ⟨b, o + l * n, none⟩) (r - l) (cap - l))
        | false => none
      | _, _ => none
    | _, _ => none
  | some (.array m e), .pointer (some ⟨b, o, none⟩), none => match h.get b, sizeT P e with
    | some (.cells _ _ none _), some n => match boundOf lo 0, boundOf hi m with
      | some l, some r => match Nat.ble l r && Nat.ble r m with
        | true => match Nat.beq l m with
          | true => some (.slice (some ⟨b, o, none⟩) (r - l) (m - l))
          | false => some (.slice (some ⟨b, o + l * n, none⟩) (r - l) (m - l))
        | false => none
      | _, _ => none
    | _, _ => none
  | _, _, _ => none

def aLen (P : Program) (t : TypeId) (x : Value) : Option Value :=
  match P.underlying t, x with
  | some .string, .string s => some (.int .i64 s.data.toList.length)
  | some (.slice _), .slice _ n _ => some (.int .i64 n)
  | some (.array n _), _ => some (.int .i64 n)
  | some (.pointer a), _ => match P.underlying a with
    | some (.array n _) => some (.int .i64 n)
    | _ => none
  | _, _ => none

def lesser : Value → Value → Option Value
  | .int k x, .int k' y => some (.int k (if y < x then y else x))
  | .string x, .string y => some (.string (if Op.bytesLess x.data.toList y.data.toList || eqBytes x y then x else y))
  | _, _ => none
def greater : Value → Value → Option Value
  | .int k x, .int k' y => some (.int k (if y > x then y else x))
  | .string x, .string y => some (.string (if !(Op.bytesLess x.data.toList y.data.toList) then x else y))
  | _, _ => none
def foldV (f : Value → Value → Option Value) : Value → List Value → Option Value
  | x, [] => some x
  | x, y :: r => match f x y with | some z => foldV f z r | none => none

/-- What append reads: the cells of the second operand. -/
def aSource (size : Nat) (x : Value) (h : AH) : Option (Nat × List Value) :=
  match x with
  | .slice none 0 0 => some (0, [])
  | .slice (some ⟨b, o, none⟩) n _ => match h.get b with
    | some (.cells c _ _ _) => match takeAt c o (n * size) with
      | some xs => some (n, xs)
      | none => none
    | _ => none
  | .string s => some (s.data.toList.length, s.data.toList.map fun b => .int .u8 b.toNat)
  | _ => none

def aAppend (P : Program) (types : List TypeId) (s x : Value) (h : AH) : Option (Value × AH) :=
  match types with
  | [ts, tx] => match sliceElem P ts, P.underlying tx with
    | some _, some (.int _) => none
    | some e, some _ => match zeroCellsT P e, bytesT P e with
      | some z, some (by_ + 1) => match aSource z.length x h with
        | some (n, new) => match Nat.ble ((n + 1) * (by_ + 1)) 1099511627776 && (new.all one? && Nat.beq new.length (n * z.length)) with
          | true =>
            match s with
            | .slice none 0 0 =>
              match n with
              | 0 => some (.slice none 0 0, h)
              | _ => some (.slice (some ⟨h.next, 0, none⟩) n n, h.add (.cells new e (some z.length) false))
            | .slice (some ⟨b, o, none⟩) len cap =>
              match h.get b with
              | some (.cells c eb slk ro) =>
                match Nat.ble (len + n) cap with
                | true =>
                  match n with
                  | 0 => some (.slice (some ⟨b, o, none⟩) len cap, h)
                  | _ => match ro with
                    | true => none
                    | false => match putCells h b (o + len * z.length) c eb slk new with
                      | some h' => some (.slice (some ⟨b, o, none⟩) (len + n) cap, h')
                      | none => none
                | false =>
                  match takeAt c o (len * z.length), Nat.ble ((len + n) * (by_ + 1)) 1099511627776 with
                  | some old, true =>
                    match slk with
                    | none => some (.slice (some ⟨h.next, 0, none⟩) (len + n) (len + n), h.add (.cells (old ++ new) e (some z.length) false))
                    | some k => match ro, Nat.beq k z.length && Nat.beq eb e && Nat.ble (o + cap * k) c.length with
                      | false, true => some (.slice (some ⟨h.next, 0, none⟩) (len + n) (len + n), (h.put b .dead).add (.cells (old ++ new) e (some z.length) false))
                      | _, _ => none
                  | _, _ => none
              | _ => none
            | _ => none
          | false => none
        | none => none
      | _, _ => none
    | _, _ => none
  | _ => none

def aClear (P : Program) (t : TypeId) (x : Value) (h : AH) : Option AH :=
  match P.underlying t, x with
  | some (.slice _), .slice none 0 0 => some h
  | some (.slice e), .slice (some ⟨b, o, none⟩) n _ =>
    match n with
    | 0 => some h
    | _ => match zeroCellsT P e, h.get b with
      | some z, some (.cells c eb slk false) => putCells h b o c eb slk (zeroRow z n)
      | _, _ => none
  | _, _ => none

/-- unsafe.SliceData behind unsafe.String of a []byte: the bytes, and the block is not written any more. -/
def aSliceData (x : Value) : Option Value :=
  match x with
  | .slice none 0 0 => some (.pointer none)
  | .slice (some ⟨b, o, none⟩) _ (_ + 1) => some (.pointer (some ⟨b, o, none⟩))
  | _ => none

def aUnsafeString (P : Program) (types : List TypeId) (p n : Value) (h : AH) : Option (Value × AH) :=
  match p, n with
  | .pointer none, .int _ 0 => match types with | _ :: _ => some (.string ⟨#[]⟩, h) | [] => none
  | .pointer (some ⟨b, o, none⟩), .int _ (.ofNat k) =>
    match types with
    | pt :: _ => match P.underlying pt with
      | some (.pointer e) => match h.get b, P.underlying e, sizeT P e with
        | some (.cells c eb slk false), some (.int .u8), some 1 =>
          match Nat.beq eb e && Nat.ble k 4611686018427387904, takeAt c o k with
          | true, some xs => match bytesOf? xs with
            | some s => match k with
              | 0 => some (.string ⟨#[]⟩, h)
              | _ => some (.string ⟨s.toArray⟩, h.put b (.cells c eb slk true))
            | none => none
          | _, _ => none
        | _, _, _ => none
      | _ => none
    | _ => none
  | _, _ => none

inductive ANext where
  | val (v : Value) (h : AH)
  | skip (h : AH)
  | call (f : FuncId) (args : List Value)
  | yield (l : Nat) (args : List Value)

def evA (t : Tr Value) : Operand → Option Value
  | .tmp k => t.get k
  | .const v => match plainV v with | true => some v | false => none
  | .global _ => none
  | .func f => some (.func (.func f) #[] #[])

def evAll (t : Tr Value) : List Operand → Option (List Value)
  | [] => some []
  | o :: r => match evA t o, evAll t r with
    | some v, some vs => some (v :: vs)
    | _, _ => none
def evParts (t : Tr Value) : List (Nat × Operand) → Option (List (Nat × Value))
  | [] => some []
  | (i, o) :: r => match evA t o, evParts t r with
    | some v, some vs => some ((i, v) :: vs)
    | _, _ => none
def evOpt (t : Tr Value) : Option Operand → Option (Option Value)
  | none => some none
  | some o => match evA t o with | some v => some (some v) | none => none

def nextOf (o : Option Value) (h : AH) : Option ANext := match o with | some v => some (.val v h) | none => none
def nextOf2 (o : Option (Value × AH)) : Option ANext := match o with | some (v, h) => some (.val v h) | none => none

def aBuiltin (P : Program) (b : Builtin) (types : List TypeId) (args : List Value) (h : AH) : Option ANext :=
  match b, types, args with
  | .len, ty :: _, x :: _ => nextOf (aLen P ty x) h
  | .append, _, [s, x] => nextOf2 (aAppend P types s x h)
  | .min, _, x :: r => nextOf (foldV lesser x r) h
  | .max, _, x :: r => nextOf (foldV greater x r) h
  | .clear, ty :: _, x :: _ => match aClear P ty x h with | some h' => some (.val (.tuple #[]) h') | none => none
  | .unsafeSliceData, _, [x] => nextOf (aSliceData x) h
  | .unsafeString, _, [p, n] => nextOf2 (aUnsafeString P types p n h)
  | _, _, _ => none

def aOp (P : Program) (t : Tr Value) (h : AH) (op : Op) : Option ANext :=
  match op with
  | .move x | .assign x => nextOf (evA t x) h
  | .pick c a b => match evA t c with
    | some (.bool true) => nextOf (evA t a) h
    | some (.bool false) => nextOf (evA t b) h
    | _ => none
  | .alloc e => match zeroT P e with
    | some z => match plainV z with
      | true => some (.val (aNew e z.cells.toList h).1 (aNew e z.cells.toList h).2)
      | false => none
    | none => none
  | .box e x => match evA t x with
    | some v => some (.val (aNew e v.cells.toList h).1 (aNew e v.cells.toList h).2)
    | none => none
  | .build ty ps => match evParts t ps.toList with
    | some vs => nextOf (aBuild P ty vs) h
    | none => none
  | .buildSlice ty n ps => match evParts t ps.toList with
    | some vs => nextOf2 (aBuildSlice P ty n vs h)
    | none => none
  | .load ty a => match evA t a with
    | some v => nextOf (aLoad P ty v h) h
    | none => none
  | .store ty a x => match evA t a, evA t x with
    | some p, some v => match aStore P ty p v h with
      | some h' => some (.skip h')
      | none => none
    | _, _ => none
  | .nilCheck x => match evA t x with
    | some (.pointer (some a)) => some (.val (.pointer (some a)) h)
    | _ => none
  | .binOp op ty x y _ => match evA t x, evA t y with
    | some a, some b => nextOf (aBin P op ty a b) h
    | _, _ => none
  | .unOp op _ x => match evA t x with
    | some a => nextOf (aUn op a) h
    | none => none
  | .convert s d x => match evA t x with
    | some a => match aConvert P s d a with
      | some v => some (.val v h)
      | none => match aToString P s d a h with
        | some v => some (.val v h)
        | none => nextOf (aUnsafePtr P s d a h) h
    | none => none
  | .makeFunc (.func f) first captured => match evAll t first.toList, evAll t captured.toList with
    | some a, some b => some (.val (.func (.func f) a.toArray b.toArray) h)
    | _, _ => none
  | .makeSlice ty l c => match evA t l, evA t c with
    | some a, some b => nextOf2 (aMakeSlice P ty a b h)
    | _, _ => none
  | .slice ty x lo hi mx => match evA t x, evOpt t lo, evOpt t hi, evOpt t mx with
    | some a, some l, some r, some m => nextOf (aSlice P ty a l r m h) h
    | _, _, _, _ => none
  | .fieldAddr s x f => match evA t x with
    | some a => nextOf (aFieldAddr P s a f) h
    | none => none
  | .field s x f => match evA t x with
    | some a => nextOf (aField P s a f) h
    | none => none
  | .indexAddr ty x i => match evA t x, evA t i with
    | some a, some k => nextOf (aIndexAddr P ty a k) h
    | _, _ => none
  | .index ty x i => match evA t x, evA t i with
    | some a, some k => nextOf (aIndex P ty a k) h
    | _, _ => none
  | .extract x k => match evA t x with
    | some (.tuple vs) => nextOf vs.toList[k]? h
    | _ => none
  | .call c => match evAll t c.args.toList with
    | some args => match c.callee with
      | .builtin b => aBuiltin P b c.argTypes.toList args h
      | .value f => match evA t f with
        | some (.func (.func g) first captured) => some (.call g (first.toList ++ (args ++ captured.toList)))
        | some (.func (.yield l) first captured) => match first.toList, captured.toList with
          | [], [] => some (.yield l args)
          | _, _ => none
        | _ => none
      | .invoke _ _ => none
    | none => none
  | _ => none

/-! ### Regions, calls, code -/
inductive AX where
  | norm
  | exit (id : Nat)
  | ret

abbrev Res := AX × Tr Value × AH
/-- The run of code: in a round?; how many slots the frame has. -/
abbrev Runner := Bool → Nat → Code → Tr Value → AH → Option Res
abbrev Extern := FuncId → List Value → AH → Option (Value × AH)

def putD (sz : Nat) (t : Tr Value) (d : Option Tmp) (v : Value) : Option (Tr Value) :=
  match d with
  | none => some t
  | some k => match Nat.blt k sz with
    | true => some (t.set k v)
    | false => none

def enterArgs : Nat → List Value → Tr Value → Tr Value
  | _, [], t => t
  | k, v :: r, t => enterArgs (k + 1) r (t.set k v)

def resultA (P : Program) (t : Tr Value) (h : AH) : ResultVar → Option Value
  | .tmp k => t.get k
  | .cell a ty => match t.get a with
    | some p => aLoad P ty p h
    | none => none
def resultsA (P : Program) (t : Tr Value) (h : AH) : List ResultVar → Option (List Value)
  | [] => some []
  | r :: rs => match resultA P t h r, resultsA P t h rs with
    | some v, some vs => some (v :: vs)
    | _, _ => none
def oneOrTuple : List Value → Value
  | [v] => v
  | vs => .tuple vs.toArray

/-- A call: X tells what some functions give (those without a body, and those that are known); the others are run. -/
def callA (P : Program) (X : Extern) (run : Runner) (f : FuncId) (args : List Value) (h : AH) : Option (Value × AH) :=
  match X f args h with
  | some r => some r
  | none => match P.funcs[f]? with
    | some fn => match fn.body with
      | some body => match run false (args.length + (fn.ntmps - args.length)) body (enterArgs 0 args .e) h with
        | some (.exit _, _, _) => none
        | some (_, t, h') => match resultsA P t h' fn.results.toList with
          | some vs => some (oneOrTuple vs, h')
          | none => none
        | none => none
      | none => none
    | none => none

def setParams : List Tmp → List Value → Tr Value → Option (Tr Value)
  | [], [], t => some t
  | p :: ps, v :: vs, t => setParams ps vs (t.set p v)
  | _, _, _ => none

def jumpOf : AX → Option Code
  | .norm => none
  | .exit id => some (.exit id)
  | .ret => some .ret

def yieldA (run : Runner) (l : Nat) (args : List Value) (h : AH) : Option (Value × AH) :=
  match h.get l with
  | some (.loop .ready none sz tmps params assign body) =>
    match params.all (fun p => Nat.blt p sz), setParams params args tmps with
    | true, some t0 => match run true sz assign t0 h with
      | some (.norm, t1, h1) => match h1.get l with
        | some (.loop .ready none sz' tmps' params' assign' body') =>
          match run true sz body t1 (h1.put l (.loop .busy none sz' tmps' params' assign' body')) with
          | some (x, _, h2) => match h2.get l with
            | some (.loop .busy none sz2 tmps2 params2 assign2 body2) =>
              match x with
              | .norm => some (.bool true, h2.put l (.loop .ready none sz2 tmps2 params2 assign2 body2))
              | x => some (.bool false, h2.put l (.loop .done (jumpOf x) sz2 tmps2 params2 assign2 body2))
            | _ => none
          | none => none
        | _ => none
      | _ => none
    | _, _ => none
  | _ => none

def guardA (ops : Array Oper) (t : Tr Value) : Option (Nat × Bool) → Option Bool
  | none => some true
  | some (j, want) => match ops[j]? with
    | some o => match o.dst with
      | some d => match t.get d with
        | some (.bool b) => some (b == want)
        | some (.tuple _) => some false
        | _ => none
      | none => none
    | none => none

/-- One operation, its calls too. -/
def opA (P : Program) (X : Extern) (run : Runner) (t : Tr Value) (h : AH) (op : Op) : Option (Value × AH) :=
  match aOp P t h op with
  | some (.val v h') => some (v, h')
  | some (.skip h') => some (.tuple #[], h')
  | some (.call f args) => callA P X run f args h
  | some (.yield l args) => yieldA run l args h
  | none => none

/-- The operations of a region in the order of the text. -/
def opsA (P : Program) (X : Extern) (run : Runner) (sz : Nat) (ops : Array Oper) : List Oper → Tr Value → AH → Option (Tr Value × AH)
  | [], t, h => some (t, h)
  | o :: r, t, h => match guardA ops t o.guard with
    | some true => match opA P X run t h o.op with
      | some (v, h') => match putD sz t o.dst v with
        | some t' => opsA P X run sz ops r t' h'
        | none => none
      | none => none
    | some false => match putD sz t o.dst (.tuple #[]) with
      | some t' => opsA P X run sz ops r t' h
      | none => none
    | none => none

/-! ### Regions whose order is open -/
/-- May the operation turn the memory? -/
def isMem (op : Op) : Bool :=
  match op with
  | .move _ | .assign _ | .pick .. | .build .. | .load .. | .nilCheck _ | .binOp .. | .unOp .. | .convert .. | .makeFunc .. | .slice .. | .fieldAddr .. | .field .. | .indexAddr .. | .index .. | .extract .. => false
  | .call c => match c.callee with
    | .builtin b => match b with
      | .len | .min | .max | .unsafeSliceData => false
      | _ => true
    | _ => true
  | _ => true
def tmpsOf : Operand → List Tmp
  | .tmp k => [k]
  | _ => []
def tmpsAll : List Operand → List Tmp
  | [] => []
  | o :: r => tmpsOf o ++ tmpsAll r
def tmpsParts : List (Nat × Operand) → List Tmp
  | [] => []
  | (_, o) :: r => tmpsOf o ++ tmpsParts r
def tmpsOpt : Option Operand → List Tmp
  | none => []
  | some o => tmpsOf o
/-- The slots that the operation reads. -/
def usesOp (op : Op) : List Tmp :=
  match op with
  | .move x | .assign x | .nilCheck x | .load _ x | .unOp _ _ x | .convert _ _ x | .fieldAddr _ x _ | .field _ x _ | .extract x _ | .box _ x => tmpsOf x
  | .pick c a b => tmpsOf c ++ (tmpsOf a ++ tmpsOf b)
  | .build _ ps | .buildSlice _ _ ps => tmpsParts ps.toList
  | .store _ a x => tmpsOf a ++ tmpsOf x
  | .binOp _ _ x y _ | .indexAddr _ x y | .index _ x y | .makeSlice _ x y => tmpsOf x ++ tmpsOf y
  | .makeFunc _ a b => tmpsAll a.toList ++ tmpsAll b.toList
  | .slice _ x a b c => tmpsOf x ++ (tmpsOpt a ++ (tmpsOpt b ++ tmpsOpt c))
  | .call c => tmpsAll c.args.toList ++ (match c.callee with | .value f => tmpsOf f | _ => [])
  | _ => []
def dstL (o : Oper) : List Tmp := match o.dst with | some d => [d] | none => []
def guardL (ops : Array Oper) (o : Oper) : List Tmp :=
  match o.guard with
  | none => []
  | some (j, _) => match ops[j]? with
    | some o' => dstL o'
    | none => []
/-- The slots that the operation names. -/
def namesOf (ops : Array Oper) (o : Oper) : List Tmp := dstL o ++ (guardL ops o ++ usesOp o.op)

def edgeMask (ms : List Nat) (m : Nat) (e : Edge) : Nat :=
  match Region.binds .any e with
  | true => m ||| ((1 <<< e.on) ||| (ms[e.on]?).getD 0)
  | false => m
def maskOf (ms : List Nat) (o : Oper) : Nat := o.after.toList.foldl (edgeMask ms) 0
/-- For every operation, which operations come before it in every order. -/
def masks : List Oper → List Nat → List Nat
  | [], ms => ms
  | o :: r, ms => masks r (ms ++ [maskOf ms o])
def prec (ms : List Nat) (k i : Nat) : Bool := match ms[i]? with | some m => m.testBit k | none => false
def hasN (l : List Nat) (k : Nat) : Bool := l.any (Nat.beq k)
def isMemAt (ops : Array Oper) (i : Nat) : Bool := match ops[i]? with | some o => isMem o.op | none => false
def isMakeAt (ops : Array Oper) (i : Nat) : Bool :=
  match ops[i]? with
  | some o => match o.op with
    | .alloc _ | .box .. | .buildSlice .. => true
    | _ => false
  | none => false
/-- The operations that make a block and whose place among those that turn the memory is open. -/
def floatsOf (ops : Array Oper) (ms : List Nat) : List Nat :=
  (List.range ops.size).filter fun i => isMakeAt ops i && (List.range ops.size).any fun k => isMemAt ops k && (!Nat.beq k i && !(prec ms k i || prec ms i k))
/-- The operations that turn the memory and whose order is fixed. -/
def chainAt (ops : Array Oper) (fl : List Nat) (i : Nat) : Bool := isMemAt ops i && !hasN fl i
def wrHits (o : Oper) (names : List Tmp) : Bool := match o.dst with | some d => hasN names d | none => false
def clash (ops : Array Oper) (fl : List Nat) (k i : Nat) : Bool :=
  match ops[k]?, ops[i]? with
  | some a, some b => wrHits a (namesOf ops b) || (wrHits b (namesOf ops a) || (chainAt ops fl k && chainAt ops fl i))
  | _, _ => true
def edgesOk (ops : Array Oper) (i : Nat) : Bool :=
  match ops[i]? with
  | some o => o.after.toList.all fun e => !Region.binds .any e || Nat.blt e.on i
  | none => false
def planOk (ops : Array Oper) (ms : List Nat) (fl : List Nat) : Bool :=
  (List.range ops.size).all fun i => edgesOk ops i && (List.range i).all fun k => !clash ops fl k i || prec ms k i

/-- What a float makes: a pointer or a slice, the block's cells and its type. -/
def aFloat (P : Program) (t : Tr Value) (op : Op) : Option (Option Nat × List Value × TypeId) :=
  match op with
  | .alloc e => match zeroT P e with
    | some z => match plainV z with
      | true => some (none, z.cells.toList, e)
      | false => none
    | none => none
  | .box e x => match evA t x with
    | some v => some (none, v.cells.toList, e)
    | none => none
  | .buildSlice ty n ps => match evParts t ps.toList, sliceElem P ty with
    | some vs, some e => match zeroCellsT P e with
      | some z => match Nat.ble (n * z.length) 16777216 with
        | true => match fillL (fun i => some (i * z.length, z.length)) (zeroRow z n) vs with
          | some c => some (some n, c, e)
          | none => none
        | false => none
      | none => none
    | _, _ => none
  | _ => none
def mkFloat (k : Option Nat) (b : Nat) : Value := match k with | none => .pointer (some ⟨b, 0, none⟩) | some n => .slice (some ⟨b, 0, none⟩) n n

def same0 : Value → Value → Bool
  | .bool a, .bool b => a == b
  | .int k a, .int k' b => decide (k = k') && decide (a = b)
  | .string a, .string b => eqBytes a b
  | .pointer none, .pointer none => true
  | .pointer (some ⟨b, o, none⟩), .pointer (some ⟨b', o', none⟩) => Nat.beq b b' && Nat.beq o o'
  | .slice none l c, .slice none l' c' => Nat.beq l l' && Nat.beq c c'
  | .slice (some ⟨b, o, none⟩) l c, .slice (some ⟨b', o', none⟩) l' c' => Nat.beq b b' && (Nat.beq o o' && (Nat.beq l l' && Nat.beq c c'))
  | .map none, .map none => true
  | .nilFunc, .nilFunc => true
  | .nilIface, .nilIface => true
  | _, _ => false
def sameL (f : Value → Value → Bool) : List Value → List Value → Bool
  | [], [] => true
  | a :: r, b :: s => f a b && sameL f r s
  | _, _ => false
def same1 : Value → Value → Bool
  | .func (.func g) a c, .func (.func g') a' c' => Nat.beq g g' && (sameL same0 a.toList a'.toList && sameL same0 c.toList c'.toList)
  | a, b => same0 a b
def sameV : Value → Value → Bool
  | .agg a, .agg b => sameL same1 a.toList b.toList
  | .tuple a, .tuple b => sameL same1 a.toList b.toList
  | a, b => same1 a b

/-- One operation of the run in the order of the text: the slots and the memory before it, is it run, its value. -/
structure DStep where
  t : Tr Value
  h : AH
  go : Bool
  v : Value

def idOf : List (Nat × Nat) → Nat → Option Nat
  | [], _ => none
  | (j, b) :: r, i => match Nat.beq j i with | true => some b | false => idOf r i
def stepD (P : Program) (X : Extern) (run : Runner) (ids : List (Nat × Nat)) (place : Bool) (i : Nat) (op : Op) (t : Tr Value) (h : AH) : Option (Value × AH) :=
  match idOf ids i with
  | some b => match aFloat P t op with
    | some (k, c, e) => match place with
      | true => some (mkFloat k b, { h with tr := h.tr.set b (.cells c e none false) })
      | false => some (mkFloat k b, h)
    | none => none
  | none => opA P X run t h op
def consD (s : DStep) : Option (List DStep × Tr Value × AH) → Option (List DStep × Tr Value × AH)
  | some (l, t, h) => some (s :: l, t, h)
  | none => none
def runD (P : Program) (X : Extern) (run : Runner) (sz : Nat) (ops : Array Oper) (ids : List (Nat × Nat)) (place : Bool) : Nat → List Oper → Tr Value → AH → Option (List DStep × Tr Value × AH)
  | _, [], t, h => some ([], t, h)
  | i, o :: r, t, h => match guardA ops t o.guard with
    | some true => match stepD P X run ids place i o.op t h with
      | some (v, h') => match putD sz t o.dst v with
        | some t' => consD ⟨t, h, true, v⟩ (runD P X run sz ops ids place (i + 1) r t' h')
        | none => none
      | none => none
    | some false => match putD sz t o.dst (.tuple #[]) with
      | some t' => consD ⟨t, h, false, .tuple #[]⟩ (runD P X run sz ops ids place (i + 1) r t' h)
      | none => none
    | none => none

def hpAt (l : List DStep) (h' : AH) (k : Nat) : AH := match l[k]? with | some s => s.h | none => h'
/-- Could the operation i not stand just after the first m operations of the chain? -/
def farOff (ms mems : List Nat) (m i : Nat) : Bool := (mems.drop m).any (fun q => prec ms q i) || (mems.take m).any (fun q => prec ms i q)
def okAt (P : Program) (ids : List (Nat × Nat)) (i : Nat) (op : Op) (s : DStep) (k : AH) : Bool :=
  match idOf ids i with
  | some b => match aFloat P s.t op with
    | some (_, c, e) => match k.get b with
      | some (.cells c' e' none false) => Nat.beq e e' && sameL same1 c c'
      | _ => false
    | none => false
  | none => match aOp P s.t k op with
    | some (.val v _) => sameV v s.v
    | _ => false
/-- Does the operation look at the memory? -/
def isRd (op : Op) : Bool := match op with | .load .. | .slice .. | .convert .. => true | _ => false
/-- Is the operation's place among those of the chain fixed? -/
def fixedAt (ms mems : List Nat) (i : Nat) : Bool := mems.all fun q => match Nat.blt q i with | true => prec ms q i | false => Nat.beq q i || prec ms i q
/-- The operation's value is the same in every order: by its kind and its place alone. -/
def calmAt (ids : List (Nat × Nat)) (ms mems : List Nat) (i : Nat) (op : Op) : Bool := match idOf ids i with | some _ => false | none => !isRd op || fixedAt ms mems i
def stepOk (P : Program) (ops : Array Oper) (ids : List (Nat × Nat)) (ms fl mems : List Nat) (hs : List AH) (l : List DStep) (i : Nat) : Bool :=
  chainAt ops fl i || match ops[i]?, l[i]? with
    | some o, some s => !s.go || (calmAt ids ms mems i o.op || (List.range hs.length).all fun m => farOff ms mems m i || match hs[m]? with
      | some k => okAt P ids i o.op s k
      | none => false)
    | _, _ => false

def numbered : Nat → List Nat → List (Nat × Nat)
  | _, [] => []
  | n, j :: r => (j, n) :: numbered (n + 1) r
def hintObj (P : Program) (ops : Array Oper) (l : List DStep) (j : Nat) : AObj :=
  match ops[j]?, l[j]? with
  | some o, some s => match aFloat P s.t o.op with
    | some (_, c, e) => .cells c e none false
    | none => .dead
  | _, _ => .dead
def opsD2 (P : Program) (X : Extern) (run : Runner) (sz : Nat) (ops : Array Oper) (ms fl : List Nat) (ids : List (Nat × Nat)) (t : Tr Value) (h : AH) : Option (Tr Value × AH) :=
  match runD P X run sz ops ids false 0 ops.toList t h with
  | some (l, t', h') =>
    let mems := (List.range ops.size).filter (chainAt ops fl)
    let hs := h :: mems.map fun i => hpAt l h' (i + 1)
    match (List.range ops.size).all (stepOk P ops ids ms fl mems hs l) with
    | true => some (t', h')
    | false => none
  | none => none
def opsD (P : Program) (X : Extern) (run : Runner) (sz : Nat) (ops : Array Oper) (t : Tr Value) (h : AH) : Option (Tr Value × AH) :=
  let ms := masks ops.toList []
  let fl := floatsOf ops ms
  match planOk ops ms fl with
  | true => match fl with
    | [] => opsD2 P X run sz ops ms [] [] t h
    | j :: r =>
      let ids := numbered h.next (j :: r)
      match runD P X run sz ops ids true 0 ops.toList t { h with next := h.next + (r.length + 1) } with
      | some (l, _, _) => opsD2 P X run sz ops ms (j :: r) ids t (((j :: r).map (hintObj P ops l)).foldl AH.add h)
      | none => none
  | false => none

def execStep (P : Program) (X : Extern) (run : Runner) : Runner := fun inR sz c t h =>
  match c with
  | .skip => some (.norm, t, h)
  | .label _ => some (.norm, t, h)
  | .seq a b => match run inR sz a t h with
    | some (.norm, t', h') => run inR sz b t' h'
    | r => r
  | .cond c a b => match evA t c with
    | some (.bool true) => run inR sz a t h
    | some (.bool false) => run inR sz b t h
    | _ => none
  | .block id body => match run inR sz body t h with
    | some (.exit id', t', h') => match Nat.beq id' id with
      | true => some (.norm, t', h')
      | false => some (.exit id', t', h')
    | r => r
  | .loop body => match run inR sz body t h with
    | some (.norm, t', h') => run inR sz (.loop body) t' h'
    | r => r
  | .scope body => run inR sz body t h
  | .exit id => some (.exit id, t, h)
  | .ret => some (.ret, t, h)
  | .region _ ops false => match opsA P X run sz ops ops.toList t h with
    | some (t', h') => some (.norm, t', h')
    | none => none
  | .region _ ops true => match opsD P X run sz ops t h with
    | some (t', h') => some (.norm, t', h')
    | none => none
  | .rangeFunc f ps assign body => match inR, evA t f with
    | false, some (.func (.func g) first captured) =>
      match callA P X run g (first.toList ++ (.func (.yield h.next) #[] #[] :: captured.toList)) (h.add (.loop .ready none sz t ps.toList assign body)) with
      | some (_, h') => match h'.get h.next with
        | some (.loop st pend sz' tmps' ps' asg' bo') =>
          match st with
          | .busy => none
          | _ => match pend with
            | none => some (.norm, t, h'.put h.next (.loop .exhausted pend sz' tmps' ps' asg' bo'))
            | some (.exit id) => some (.exit id, t, h'.put h.next (.loop .exhausted pend sz' tmps' ps' asg' bo'))
            | some .ret => some (.ret, t, h'.put h.next (.loop .exhausted pend sz' tmps' ps' asg' bo'))
            | _ => none
        | _ => none
      | none => none
    | _, _ => none
  | _ => none

def exec (P : Program) (X : Extern) (n : Nat) : Runner :=
  Nat.rec (fun _ _ _ _ _ => none) (fun _ ih => execStep P X ih) n
end Go.Proofs.Xx
