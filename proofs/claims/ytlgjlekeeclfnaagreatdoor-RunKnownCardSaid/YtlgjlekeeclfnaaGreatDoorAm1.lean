/-
  The abstract machine, part 1 of 4: a small evaluator of the model's programs over a memory of its own, and that what it comes to the program comes to, for every tape.
-/
import GoSem.Step
import GoSem.Claims
import Derived.Laws.Cells
import Derived.Below
import Derived.Orders
import Derived.Laws.Entries
import Derived.Laws.Tables
import Derived.Laws.StructEq
import Derived.ChangeKeysEq
import Derived.Laws.Slices
import Derived.Laws.Strings
import Derived.Lib.Strings
import Derived.Laws.BytesString
import Derived.Laws.IdiomStrings
import Derived.Laws.MakeOwn
import Derived.MapKept
namespace Go.AM
open Go

/-! ## tries -/
inductive PT (α : Type) where
  | leaf : PT α
  | node (l : PT α) (v : Option α) (r : PT α) : PT α

def PT.get {α : Type} : PT α → Nat → Option α
  | .leaf, _ => none
  | .node l v r, n => cond (Nat.beq n 0) v (cond (Nat.beq (n % 2) 1) (l.get (n / 2)) (r.get (n / 2 - 1)))

def PT.set {α : Type} : Nat → PT α → Nat → α → PT α
  | 0, t, _, _ => t
  | f + 1, .leaf, n, x => cond (Nat.beq n 0) (.node .leaf (some x) .leaf) (cond (Nat.beq (n % 2) 1) (.node (PT.set f .leaf (n / 2) x) none .leaf) (.node .leaf none (PT.set f .leaf (n / 2 - 1) x)))
  | f + 1, .node l v r, n, x => cond (Nat.beq n 0) (.node l (some x) r) (cond (Nat.beq (n % 2) 1) (.node (PT.set f l (n / 2) x) v r) (.node l v (PT.set f r (n / 2 - 1) x)))

def PT.ofList {α : Type} : List α → Nat → PT α → PT α
  | [], _, t => t
  | x :: l, i, t => PT.ofList l (i + 1) (PT.set 64 t i x)

structure Fam where
  head : Nat
  oldEnd : Nat
  oldAlive : Bool

inductive AObj where
  | row (cells : List Value) (size es : Nat) (fam : Nat) (delta : Nat)
  | map (es : List MapEntry) (clock : Nat)
  | loop (state : LoopState) (pending : Option Code) (fn : FuncId) (tmps : PT Value) (n : Nat) (params : List Tmp) (assign body : Code) (defers : Nat)
  | deferred (calls : Option (List Deferred))
  | strIter (s : ByteArray) (pos : Nat)
  | mapIter (map : Option Nat) (since : Nat) (seen : List Nat) (stepped : Nat)

structure AH where
  tree : PT AObj
  fams : PT Fam
  next : Nat

def AH.readable (h : AH) (b fam : Nat) : Bool :=
  match h.fams.get fam with
  | none => true
  | some F => cond (Nat.beq F.head b) true F.oldAlive

def AH.cellsAt (h : AH) (b off n : Nat) : Option (List Value) :=
  match h.tree.get b with
  | some (.row cs size _ fam _) => cond (h.readable b fam) (cond (Nat.ble (off + n) size) (some ((cs.drop off).take n)) none) none
  | _ => none

def AH.cellAt (h : AH) (b off : Nat) : Option Value :=
  match h.tree.get b with
  | some (.row cs _ _ fam _) => cond (h.readable b fam) (cs[off]?) none
  | _ => none

/-- the cells with these over them from place off on. -/
def over : List Value → Nat → List Value → List Value
  | cs, 0, vs => ovr cs vs
  | [], _ + 1, _ => []
  | c :: cs, off + 1, vs => c :: over cs off vs
where ovr : List Value → List Value → List Value
  | cs, [] => cs
  | [], _ :: _ => []
  | _ :: cs, v :: vs => v :: ovr cs vs

def plainCell : Value → Bool
  | .agg _ => false
  | .tuple _ => false
  | _ => true

def AH.putObj (h : AH) (b : Nat) (o : AObj) : AH := { h with tree := PT.set 64 h.tree b o }

def AH.storeAt (h : AH) (b off : Nat) (vs : List Value) : Option AH :=
  match h.tree.get b with
  | some (.row cs size es fam delta) =>
    cond (Nat.ble 1000 b && Nat.ble (off + vs.length) size && vs.all plainCell)
      (match h.fams.get fam with
       | none => some (h.putObj b (.row (over cs off vs) size es fam delta))
       | some F => cond (Nat.beq F.head b)
          (some { tree := PT.set 64 h.tree b (.row (over cs off vs) size es fam delta), next := h.next,
                  fams := cond (F.oldAlive && !(Nat.ble F.oldEnd (delta + off))) (PT.set 64 h.fams fam { F with oldAlive := false }) h.fams })
          none)
      none
  | _ => none

def AH.newRow (h : AH) (cs : List Value) (size es : Nat) : Option (AH × Nat) :=
  cond (Nat.blt h.next 1000000000 && Nat.beq cs.length size && cs.all plainCell) (some ({ tree := PT.set 64 h.tree h.next (.row cs size es h.next 0), fams := h.fams, next := h.next + 1 }, h.next)) none

def AH.newObj (h : AH) (o : AObj) : Option (AH × Nat) :=
  cond (Nat.blt h.next 1000000000) (some ({ tree := PT.set 64 h.tree h.next o, fams := h.fams, next := h.next + 1 }, h.next)) none

/-! ## frames -/
inductive AItem where
  | code (c : Code)
  | inBlock (id : Nat)
  | inLoop (body : Code)
  | inRegion (ops : Array Oper) (rest : List Oper)
  | inRangeFunc (loop : Nat)
  | endRangeFunc (loop : Nat)
  | beginRound

structure AFrame where
  fn : FuncId
  n : Nat
  tmps : PT Value
  todo : List AItem
  defers : List Deferred
  mode : FrameMode
  kind : CallKind
  roundOf : Option Nat

structure AS where
  fr : AFrame
  callers : List AFrame
  h : AH

def AFrame.eval (fr : AFrame) : Operand → Value
  | .tmp t => (fr.tmps.get t).getD undef
  | .const v => v
  | .global g => .pointer (some ⟨g, 0, none⟩)
  | .func f => .func (.func f) #[] #[]

/-- the special block of slices without capacity. -/
def zaddr : Addr := ⟨1000000000, 0, none⟩

mutual
/-- a value without addresses. -/
def flat : Value → Bool
  | .bool _ => true
  | .int _ _ => true
  | .string _ => true
  | .pointer none => true
  | .slice none _ _ => true
  | .map none => true
  | .nilFunc => true
  | .nilIface => true
  | .iface _ v => flat v
  | .func (.func _) ⟨a⟩ ⟨b⟩ => flats a && flats b
  | .func (.via _ _ _ _) ⟨a⟩ ⟨b⟩ => flats a && flats b
  | .agg ⟨a⟩ => flats a
  | .tuple ⟨a⟩ => flats a
  | _ => false
def flats : List Value → Bool
  | [] => true
  | a :: l => flat a && flats l
end

section
variable (P : Program) (X : FuncId → List Value → Option Value)

def isAgg (t : TypeId) : Bool :=
  match P.underlying t with
  | some (.struct _) => true
  | some (.array _ _) => true
  | _ => false

def sizeOf (t : TypeId) : Option Nat := (P.info? t).map (·.size)

/-- a type's zero value, where it holds no address. -/
def zeroVal (t : TypeId) : Option Value :=
  match P.info? t with
  | some i => match i.zero with
    | some z => cond (flat z) (some z) none
    | none => none
  | none => none

def zeroCells (t : TypeId) : Option (List Value) := (zeroVal P t).map fun z => z.cells.toList

def partOf (t : TypeId) (cs : List Value) (off : Nat) : Option Value :=
  match P.underlying t with
  | some _ => cond (isAgg P t) ((sizeOf P t).map fun n => .agg ((cs.drop off).take n).toArray) (cs[off]?)
  | none => none

/-- every field's type is known, where a struct is built. -/
def fieldsOK (fs : Array Field) : Bool := fs.toList.all fun f => (P.info? f.type).isSome

def fillA (place : Nat → Option (Nat × Nat)) (cells : List Value) : List (Nat × Value) → Option (List Value)
  | [] => some cells
  | (i, v) :: rest =>
    match place i with
    | none => none
    | some (off, size) => 
      let vs := v.cells.toList
      cond (Nat.beq vs.length size && Nat.ble (off + size) cells.length) (fillA place (over cells off vs) rest) none

inductive ANext where
  | value (v : Value) (h : AH)
  | skip (h : AH)
  | enter (f : FuncId) (args : List Value) (h : AH)
  | round (loop : Nat) (f : FuncId) (tmps : PT Value) (n : Nat) (assign body : Code) (h : AH)
  | defer (d : Deferred) (h : AH)
  | recover (h : AH)
  | panic (v : Value) (h : AH)

def intOp (op : BinOp) (k : IntKind) (x y : Int) : Option Value :=
  match op with
  | .add => some (.int k (k.wrap (x + y)))
  | .sub => some (.int k (k.wrap (x - y)))
  | .mul => some (.int k (k.wrap (x * y)))
  | .quo => if y = 0 then none else some (.int k (k.wrap (x.tdiv y)))
  | .rem => if y = 0 then none else some (.int k (x.tmod y))
  | .and => some (.int k (k.wrap (BitVec.ofInt k.bits x &&& BitVec.ofInt k.bits y).toNat))
  | .or => some (.int k (k.wrap (BitVec.ofInt k.bits x ||| BitVec.ofInt k.bits y).toNat))
  | .xor => some (.int k (k.wrap (BitVec.ofInt k.bits x ^^^ BitVec.ofInt k.bits y).toNat))
  | .andNot => some (.int k (k.wrap (BitVec.ofInt k.bits x &&& ~~~ BitVec.ofInt k.bits y).toNat))
  | .eql => some (.bool (x == y))
  | .neq => some (.bool (x != y))
  | .lss => some (.bool (x < y))
  | .leq => some (.bool (x ≤ y))
  | .gtr => some (.bool (x > y))
  | .geq => some (.bool (x ≥ y))
  | _ => none

def bytesEq : List UInt8 → List UInt8 → Bool
  | [], [] => true
  | a :: x, b :: y => cond (Nat.beq a.toNat b.toNat) (bytesEq x y) false
  | _, _ => false

def eqFs (q : TypeId → Value → Value → Option Bool) (xs ys : List Value) : List Field → Option Bool
  | [] => some true
  | f :: fs =>
    if f.name = "_" then none else
    match partOf P f.type xs f.offset, partOf P f.type ys f.offset with
    | some a, some b => match q f.type a b with
      | some true => eqFs q xs ys fs
      | some false => some false
      | none => none
    | _, _ => none

def eqIs (q : Value → Value → Option Bool) (e : TypeId) (c : Nat) (xs ys : List Value) : List Nat → Option Bool
  | [] => some true
  | i :: is =>
    match partOf P e xs (i * c), partOf P e ys (i * c) with
    | some a, some b => match q a b with
      | some true => eqIs q e c xs ys is
      | some false => some false
      | none => none
    | _, _ => none

def eqT : Nat → TypeId → Value → Value → Option Bool
  | 0, _, _, _ => none
  | d + 1, t, x, y =>
    match P.underlying t, x, y with
    | some .bool, .bool a, .bool b => some (a == b)
    | some (.int _), .int k a, .int k' b => if k = k' then some (a == b) else none
    | some .string, .string a, .string b => some (bytesEq a.data.toList b.data.toList)
    | some (.pointer _), .pointer none, .pointer b => some b.isNone
    | some (.pointer _), .pointer (some _), .pointer none => some false
    | some (.interface _), .nilIface, .nilIface => some true
    | some (.interface _), .nilIface, .iface _ _ => some false
    | some (.interface _), .iface _ _, .nilIface => some false
    | some (.slice _), .slice none _ _, .slice b _ _ => some b.isNone
    | some (.slice _), .slice (some _) _ _, .slice none _ _ => some false
    | some (.map _ _), .map none, .map b => some b.isNone
    | some (.map _ _), .map (some _), .map none => some false
    | some (.func _ _ _), .nilFunc, .nilFunc => some true
    | some (.func _ _ _), .nilFunc, .func _ _ _ => some false
    | some (.func _ _ _), .func _ _ _, .nilFunc => some false
    | some (.struct fs), .agg xs, .agg ys => cond (P.stoodInHeld t) none (eqFs P (eqT d) xs.toList ys.toList fs.toList)
    | some (.array n e), .agg xs, .agg ys => match sizeOf P e with
      | some c => eqIs P (eqT d e) e c xs.toList ys.toList (List.range n)
      | none => none
    | _, _, _ => none

def isC : Operand → Bool
  | .const _ => true
  | _ => false

def guardOK (t : TypeId) (x y : Operand) (a b : Value) : Bool :=
  match a, b with
  | .nilIface, .nilIface => isC x || isC y
  | .agg _, .agg _ => !(P.eqGuardType P.depth t)
  | _, _ => true

def binA (op : BinOp) (t : TypeId) (p q : Operand) (x y : Value) : Option Value :=
  match x, y with
  | .int k a, .int k' b =>
    match op with
    | .shl => if b < 0 then none else some (.int k (k.wrap (a * 2 ^ (min b.toNat k.bits))))
    | .shr => if b < 0 then none else some (.int k (a.fdiv (2 ^ (min b.toNat k.bits))))
    | _ => if k = k' then intOp op k a b else none
  | .string a, .string b =>
    match op with
    | .eql => some (.bool (bytesEq a.data.toList b.data.toList))
    | .neq => some (.bool !(bytesEq a.data.toList b.data.toList))
    | .add => cond (Nat.ble (a.size + b.size) 1073741824) (some (.string ⟨(a.data.toList ++ b.data.toList).toArray⟩)) none
    | _ => none
  | x, y =>
    match op with
    | .eql => cond (guardOK P t p q x y) ((eqT P 8 t x y).map .bool) none
    | .neq => cond (guardOK P t p q x y) ((eqT P 8 t x y).map fun b => .bool !b) none
    | _ => none

def unA (op : UnOp) (x : Value) : Option Value :=
  match op, x with
  | .neg, .int k n => intOp .sub k 0 n
  | .xor, .int k n => intOp .xor k (if k.signed then -1 else k.max) n
  | .not, .bool b => some (.bool !b)
  | _, _ => none

def bytesOfCells : List Value → Option (List UInt8)
  | [] => some []
  | .int .u8 n :: l => (bytesOfCells l).map (UInt8.ofNat n.toNat :: ·)
  | _ => none

def convA (h : AH) (src dst : TypeId) (x : Value) : Option Value :=
  match P.underlying src, P.underlying dst, x with
  | some _, some (.int k), .int _ n => some (.int k (k.wrap n))
  | some _, some .string, .string s => some (.string s)
  | some _, some .string, .int _ n => some (.string (Utf8.encode n))
  | some (.slice e), some .string, .slice a len _ =>
    match P.underlying e with
    | some (.int .u8) =>
      match a with
      | none => some (.string .empty)
      | some a => cond (Nat.beq len 0) (some (.string .empty)) (((h.cellsAt a.block a.off len).bind bytesOfCells).map fun l => .string ⟨l.toArray⟩)
    | _ => none
  | _, _, _ => none

def bound (v : Option Value) (dflt most : Nat) : Option Nat :=
  match v with
  | none => some dflt
  | some (.int _ i) => if 0 ≤ i ∧ i ≤ most then some i.toNat else none
  | _ => none

def boundsA (len cap : Nat) (lo hi mx : Option Value) : Option (Nat × Nat × Nat) :=
  match hi, mx with
  | none, some _ => none
  | _, _ => (bound mx cap cap).bind fun m => (bound hi len m).bind fun h => (bound lo 0 h).bind fun l => cond (Nat.ble h m) (some (l, h, m)) none

/-- may one cut a slice of such a row into elements of that size? -/
def AH.cutOK (h : AH) (b size l : Nat) : Bool :=
  cond (Nat.beq l 0) true
    (match h.tree.get b with
     | some (.row _ _ es _ _) => Nat.beq es 0 || Nat.beq es size
     | _ => false)

def sliceA (h : AH) (t : TypeId) (x : Value) (lo hi mx : Option Value) : Option Value :=
  match P.underlying t, x with
  | some .string, .string s =>
    match mx with
    | some _ => none
    | none => (boundsA s.size s.size lo hi none).map fun (l, k, _) => .string ⟨((s.data.toList.drop l).take (k - l)).toArray⟩
  | some (.slice e), .slice a len cap =>
    (sizeOf P e).bind fun size => (boundsA len cap lo hi mx).bind fun (l, k, m) =>
      match a with
      | none => some (.slice none (k - l) (m - l))
      | some a =>
        cond (Nat.beq cap 0) (cond (Nat.beq m 0) (some (.slice (some a) 0 0)) none)
          (cond (mx.isSome && Nat.beq m l) (some (.slice (some zaddr) 0 0))
            (cond (h.cutOK a.block size l) (some (.slice (some ⟨a.block, a.off + l * size, none⟩) (k - l) (m - l))) none))
  | some (.array n e), .pointer (some a) =>
    (sizeOf P e).bind fun size => (boundsA n n lo hi mx).bind fun (l, k, m) =>
      cond (Nat.beq m l) (some (.slice (some zaddr) 0 0)) (some (.slice (some ⟨a.block, a.off + l * size, none⟩) (k - l) (m - l)))
  | _, _ => none

def lenA (t : TypeId) (h : AH) (x : Value) : Option Nat :=
  match P.underlying t, x with
  | some .string, .string s => some s.size
  | some (.array n _), _ => some n
  | some (.pointer arr), _ => match P.underlying arr with | some (.array n _) => some n | _ => none
  | some (.slice _), .slice _ n _ => some n
  | some (.map _ _), .map none => some 0
  | some (.map _ _), .map (some r) => match h.tree.get r with | some (.map es _) => some es.length | _ => none
  | _, _ => none

def firstA (h : AH) (n size : Nat) (x : Value) : Option (List Value) :=
  match x with
  | .slice (some a) _ _ => cond (Nat.beq n 0) (some []) (h.cellsAt a.block a.off (n * size))
  | .slice none _ _ => some []
  | .string s => some ((s.data.toList.take n).map fun b => .int .u8 b.toNat)
  | _ => none

def lenOfA : Value → Option Nat
  | .slice _ n _ => some n
  | .string s => some s.size
  | _ => none

/-- a family gets a new head. -/
def AH.growFam (h : AH) (b fam oldEnd start : Nat) : Option (PT Fam) :=
  match h.fams.get fam with
  | none => some (PT.set 64 h.fams fam { head := h.next, oldEnd := oldEnd, oldAlive := Nat.ble oldEnd start })
  | some F => cond (Nat.beq F.head b) (some (PT.set 64 h.fams fam { head := h.next, oldEnd := max F.oldEnd oldEnd, oldAlive := F.oldAlive && Nat.ble (max F.oldEnd oldEnd) start })) none

/-- a new row of some cells of an old one and new ones behind them: of the old one's family. -/
def AH.growRow (h : AH) (b off k es : Nat) (new : List Value) : Option (AH × Nat) :=
  match h.tree.get b with
  | some (.row cs size es' fam delta) =>
    cond (Nat.blt h.next 1000000000 && Nat.ble 1000 b && Nat.beq es' es && Nat.ble (off + k) size && h.readable b fam && new.all plainCell)
      ((h.growFam b fam (delta + size) (delta + off + k)).map fun fams =>
        ({ tree := PT.set 64 h.tree h.next (.row ((cs.drop off).take k ++ new) (k + new.length) es fam (delta + off)), fams, next := h.next + 1 }, h.next))
      none
  | _ => none

/-- append; the new row belongs to the family of the old one. -/
def appendA (h : AH) (t : TypeId) (s x : Value) : Option (Value × AH) :=
  match P.underlying t, s with
  | some (.slice e), .slice base len cap =>
    match P.info? e, lenOfA x with
    | some i, some n =>
      (firstA h n i.size x).bind fun new =>
        cond (Nat.ble (len + n) cap)
          (match base with
           | some a => cond (Nat.beq n 0) (some (.slice base len cap, h)) ((h.storeAt a.block (a.off + len * i.size) new).map fun h' => (.slice base (len + n) cap, h'))
           | none => cond (Nat.beq n 0) (some (.slice base len cap, h)) none)
          (cond (Nat.ble ((len + n) * i.bytes) 1073741824 && Nat.ble (len + n) 1073741824 && Nat.blt 0 i.size && Nat.beq new.length (n * i.size) && (match zeroCells P e with | some z => Nat.beq z.length i.size | none => false))
            (match base with
             | none => cond (Nat.beq len 0) ((h.newRow new (n * i.size) i.size).map fun (h', b) => (.slice (some ⟨b, 0, none⟩) n n, h')) none
             | some a => cond (Nat.beq a.block zaddr.block && Nat.beq len 0) ((h.newRow new (n * i.size) i.size).map fun (h', b) => (.slice (some ⟨b, 0, none⟩) n n, h'))
                ((h.growRow a.block a.off (len * i.size) i.size new).map fun (h', b) => (.slice (some ⟨b, 0, none⟩) (len + n) (len + n), h')))
            none)
    | _, _ => none
  | _, _ => none

mutual
def veq : Value → Value → Bool
  | .bool a, .bool b => a == b
  | .int j a, .int k b => decide (j = k) && decide (a = b)
  | .string a, .string b => bytesEq a.data.toList b.data.toList
  | .pointer a, .pointer b => decide (a = b)
  | .slice a m n, .slice b p q => decide (a = b) && Nat.beq m p && Nat.beq n q
  | .map a, .map b => decide (a = b)
  | .func f ⟨a⟩ ⟨b⟩, .func g ⟨c⟩ ⟨d⟩ => decide (f = g) && veqs a c && veqs b d
  | .nilFunc, .nilFunc => true
  | .iface t a, .iface u b => Nat.beq t u && veq a b
  | .nilIface, .nilIface => true
  | .agg ⟨a⟩, .agg ⟨b⟩ => veqs a b
  | .tuple ⟨a⟩, .tuple ⟨b⟩ => veqs a b
  | _, _ => false
def veqs : List Value → List Value → Bool
  | [], [] => true
  | a :: x, b :: y => veq a b && veqs x y
  | _, _ => false
end

/-- a key whose bits say all of it. -/
def keyBits : Value → Bool
  | .int _ _ => true
  | .string _ => true
  | .agg a => a.toList.all fun | .int _ _ => true | _ => false
  | _ => false

/-- the types that keys may be of here. -/
def keyType (kt : TypeId) : Bool :=
  match P.underlying kt with
  | some (.int _) => true
  | some .string => true
  | some (.array _ e) => match P.underlying e with
    | some (.int _) => true
    | _ => false
  | _ => false

def findA (kt : TypeId) (k : Value) : List MapEntry → Nat → Option (Option (Nat × Value))
  | [], _ => some none
  | e :: es, i =>
    match eqT P 3 kt k e.key with
    | some true => cond (veq k e.key) (some (some (i, e.val))) none
    | some false => findA kt k es (i + 1)
    | none => none

def findKeyA (kt : TypeId) (k : Value) (es : List MapEntry) : Option (Option (Nat × Value)) :=
  cond (keyType P kt && keyBits k) (match eqT P 3 kt k k with | some _ => findA P kt k es 0 | none => none) none

def setVal : List MapEntry → Nat → Value → Value → List MapEntry
  | [], _, _, _ => []
  | e :: es, 0, k, v => { e with key := k, val := v } :: es
  | e :: es, i + 1, k, v => e :: setVal es i k v

def callA (h : AH) (f : FuncId) (args : List Value) : Option ANext :=
  match P.funcs[f]? with
  | some fn => cond fn.body.isSome (some (.enter f args h)) ((X f args).map fun v => .value v h)
  | none => none

def setMany : PT Value → List Tmp → List Value → PT Value
  | t, p :: ps, v :: vs => setMany (PT.set 64 t p v) ps vs
  | t, _, _ => t

def invokeA (h : AH) (fn : Fn) (captured : Array Value) (args : List Value) : Option ANext :=
  match fn with
  | .func f => callA P X h f (args ++ captured.toList)
  | .via t path f pointer =>
    match args, path.toList, P.underlying t, pointer with
    | x :: rest, [], some (.pointer _), true => callA P X h f (x :: rest)
    | x :: rest, [], some (.struct _), false => callA P X h f (x :: rest)
    | x :: rest, [], some (.int _), false => callA P X h f (x :: rest)
    | _, _, _, _ => none
  | .yield l =>
    match h.tree.get l with
    | some (.loop _ _ fn tmps n params assign body _) => cond (Nat.beq args.length params.length && params.all (Nat.blt · n)) (some (.round l fn (setMany tmps params args) n assign body h)) none
    | _ => none
  | _ => none

def deferOf (f : Value) (args : List Value) : Option Deferred :=
  match f with
  | .func fn first captured => some { target := .fn fn captured, args := (first.toList ++ args).toArray }
  | _ => none

def builtinA (h : AH) (b : Builtin) (argTypes : Array TypeId) (args : List Value) : Option ANext :=
  match b, argTypes.toList, args with
  | .append, t :: u :: _, [s, x] =>
    match P.underlying u with
    | none => none
    | some (.int _) => none
    | some _ => (appendA P h t s x).map fun (v, h) => .value v h
  | .len, t :: _, [x] => (lenA P t h x).map fun (n : Nat) => ANext.value (.int .i64 (n : Int)) h
  | .copy, t :: _, [d, s] =>
    match P.underlying t, d, lenOfA s with
    | some (.slice e), .slice base dLen _, some sLen =>
      let n := Nat.min sLen dLen
      (sizeOf P e).bind fun size => (firstA h n size s).bind fun cs =>
        match base with
        | some a => cond (Nat.beq n 0) (some (.value (.int .i64 n) h)) ((h.storeAt a.block a.off cs).map fun h => .value (.int .i64 n) h)
        | none => some (.value (.int .i64 n) h)
    | _, _, _ => none
  | .max, _, [.int k x, .int _ y] => some (.value (.int k (if y > x then y else x)) h)
  | .min, _, [.int k x, .int _ y] => some (.value (.int k (if y < x then y else x)) h)
  | .recover, _, [] => some (.recover h)
  | .clear, t :: _, [.slice base n _] =>
    cond (P.underlying t).isSome (match base with
    | none => some (.value (.tuple #[]) h)
    | some a => cond (Nat.beq n 0) (some (.value (.tuple #[]) h))
      (match P.underlying t with
       | some (.slice e) => (zeroCells P e).bind fun z => (h.storeAt a.block a.off (List.replicate n z).flatten).map fun h => .value (.tuple #[]) h
       | _ => none)) none
  | .delete, t :: _, [.map (some r), k] =>
    match P.underlying t, cond (Nat.ble 1000 r) (h.tree.get r) none with
    | some (.map kt _), some (.map es clock) =>
      match findKeyA P kt k es with
      | some (some (i, _)) => some (.value (.tuple #[]) (h.putObj r (.map (es.eraseIdx i) clock)))
      | some none => some (.value (.tuple #[]) h)
      | none => none
    | _, _ => none
  | _, _, _ => none

def optMap (ρ : Operand → Value) : Option Operand → Option Value
  | none => none
  | some x => some (ρ x)

def okOpd : Operand → Bool
  | .tmp _ => true
  | .const v => flat v
  | .global _ => false
  | .func _ => true

def okOper (o : Oper) : Bool := o.op.operands.toList.all okOpd

def opA (h : AH) (ρ : Operand → Value) (o : Oper) : Option ANext :=
  match o.op with
  | .move x => some (.value (ρ x) h)
  | .assign x => some (.value (ρ x) h)
  | .pick c a b => match ρ c with | .bool b' => some (.value (cond b' (ρ a) (ρ b)) h) | _ => none
  | .alloc e => (zeroCells P e).bind fun z => (h.newRow z z.length 0).map fun (h, b) => .value (.pointer (some ⟨b, 0, none⟩)) h
  | .box _ x => let cs := (ρ x).cells.toList; (h.newRow cs cs.length 0).map fun (h, b) => .value (.pointer (some ⟨b, 0, none⟩)) h
  | .build t parts =>
    match P.underlying t, zeroCells P t with
    | some (.struct fields), some z =>
      cond (fieldsOK P fields) ((fillA (fun i => match fields[i]? with | some f => (sizeOf P f.type).map fun n => (f.offset, n) | none => none) z (parts.toList.map fun (i, x) => (i, ρ x))).map fun cs => .value (.agg cs.toArray) h) none
    | some (.array _ e), some z =>
      (sizeOf P e).bind fun size => (fillA (fun i => some (i * size, size)) z (parts.toList.map fun (i, x) => (i, ρ x))).map fun cs => .value (.agg cs.toArray) h
    | _, _ => none
  | .buildSlice t len parts =>
    match P.underlying t with
    | some (.slice e) =>
      match sizeOf P e, zeroCells P e with
      | some size, some z => cond (Nat.ble (len * size) 4096 && Nat.beq z.length size) ((fillA (fun i => some (i * size, size)) (List.replicate len z).flatten (parts.toList.map fun (i, x) => (i, ρ x))).bind fun cs =>
          (h.newRow cs (len * size) size).map fun (h, b) => .value (.slice (some ⟨b, 0, none⟩) len len) h) none
      | _, _ => none
    | _ => none
  | .load t a =>
    match ρ a with
    | .pointer (some a) => cond (P.underlying t).isSome (cond (isAgg P t) ((sizeOf P t).bind fun n => (h.cellsAt a.block a.off n).map fun cs => .value (.agg cs.toArray) h) ((h.cellAt a.block a.off).map fun v => .value v h)) none
    | _ => none
  | .store t a x =>
    match ρ a with
    | .pointer (some a) => let vs := (ρ x).cells.toList; (sizeOf P t).bind fun n => cond (Nat.beq vs.length n) ((h.storeAt a.block a.off vs).map fun h => .skip h) none
    | _ => none
  | .nilCheck x =>
    match ρ x with
    | .pointer (some a) => some (.value (.pointer (some a)) h)
    | .func (.func f) a b => some (.value (.func (.func f) a b) h)
    | .func (.via t p f q) a b => some (.value (.func (.via t p f q) a b) h)
    | .func (.yield l) a b => some (.value (.func (.yield l) a b) h)
    | .iface t v => some (.value (.iface t v) h)
    | _ => none
  | .binOp op t x y _ => (binA P op t x y (ρ x) (ρ y)).map fun v => .value v h
  | .unOp op _ x => (unA op (ρ x)).map fun v => .value v h
  | .convert s d x =>
    match P.underlying d, ρ x with
    | some (.slice e), .string b =>
      match P.underlying s, P.underlying e, P.info? e with
      | some .string, some (.int .u8), some i => cond (Nat.beq i.size 1 && Nat.ble b.size 1073741824) ((h.newRow (b.data.toList.map fun c => .int .u8 c.toNat) b.size 1).map fun (h, r) => .value (.slice (some ⟨r, 0, none⟩) b.size b.size) h) none
      | _, _, _ => none
    | some (.slice e), .slice (some a) len cap =>
      match P.underlying s, P.underlying e with
      | some (.slice _), some (.int .u8) => cond (Nat.beq s d && Nat.blt 0 cap && Nat.ble 1000 a.block) (some (.value (.slice (some a) len cap) h)) none
      | _, _ => none
    | _, v => (convA P h s d v).map fun v => .value v h
  | .makeInterface t x => match P.underlying t with | some (.interface _) => none | some _ => some (.value (.iface t (ρ x)) h) | none => none
  | .makeFunc fn first captured =>
    match fn with
    | .func f => some (.value (.func (.func f) (first.toList.map ρ).toArray (captured.toList.map ρ).toArray) h)
    | .via t p f q => some (.value (.func (.via t p f q) (first.toList.map ρ).toArray (captured.toList.map ρ).toArray) h)
    | _ => none
  | .makeMap _ r => match r with
    | none => (h.newObj (.map [] 0)).map fun (h, b) => .value (.map (some b)) h
    | some _ => none
  | .makeSlice t l c =>
    match P.underlying t, ρ l, ρ c with
    | some (.slice e), .int _ l, .int _ c =>
      match P.info? e, zeroCells P e with
      | some i, some z => if 0 ≤ l ∧ l ≤ c ∧ c ≤ 1073741824 ∧ c * i.bytes ≤ 1073741824 then
          (h.newRow (List.replicate c.toNat z).flatten (c.toNat * i.size) i.size).map fun (h, b) => .value (.slice (some ⟨b, 0, none⟩) l.toNat c.toNat) h else none
      | _, _ => none
    | _, _, _ => none
  | .slice t x lo hi mx => (sliceA P h t (ρ x) (optMap ρ lo) (optMap ρ hi) (optMap ρ mx)).map fun v => .value v h
  | .fieldAddr s x f =>
    match P.underlying s, ρ x with
    | some (.struct fields), .pointer (some a) => (fields[f]?).bind fun fd => (sizeOf P fd.type).bind fun n => cond (Nat.beq n 0) none (some (.value (.pointer (some ⟨a.block, a.off + fd.offset, none⟩)) h))
    | _, _ => none
  | .field t x f =>
    match P.underlying t, ρ x with
    | some (.struct fields), .agg cs => (fields[f]?).bind fun fd => (partOf P fd.type cs.toList fd.offset).map fun v => .value v h
    | _, _ => none
  | .indexAddr t x ix =>
    match P.underlying t, ρ x, ρ ix with
    | some (.array len e), .pointer (some a), .int _ i => if 0 ≤ i ∧ i < len then (sizeOf P e).map fun n => .value (.pointer (some ⟨a.block, a.off + i.toNat * n, none⟩)) h else none
    | some (.slice e), .slice (some a) len _, .int _ i => if 0 ≤ i ∧ i < len then (sizeOf P e).map fun n => .value (.pointer (some ⟨a.block, a.off + i.toNat * n, none⟩)) h else none
    | _, _, _ => none
  | .index t x ix =>
    match P.underlying t, ρ x, ρ ix with
    | some (.array len e), .agg cs, .int _ i => if 0 ≤ i ∧ i < len then (sizeOf P e).bind fun n => (partOf P e cs.toList (i.toNat * n)).map fun v => .value v h else none
    | some .string, .string s, .int _ i => if 0 ≤ i then (s.data.toList[i.toNat]?).map fun b => .value (.int .u8 b.toNat) h else none
    | _, _, _ => none
  | .lookup t x ix ok =>
    match P.underlying t, ρ x with
    | some (.map kt e), .map r =>
      let es := match r with
        | none => some []
        | some r => match h.tree.get r with | some (.map es _) => some es | _ => none
      es.bind fun es => match findKeyA P kt (ρ ix) es with
        | some (some (_, v)) => some (.value (cond ok (.tuple #[v, .bool true]) v) h)
        | some none => (zeroVal P e).map fun z => .value (cond ok (.tuple #[z, .bool false]) z) h
        | none => none
    | _, _ => none
  | .mapUpdate t m k x | .insert t m k x =>
    match P.underlying t, ρ m with
    | some (.map kt _), .map (some r) =>
      match cond (Nat.ble 1000 r) (h.tree.get r) none with
      | some (.map es clock) =>
        match findKeyA P kt (ρ k) es with
        | some (some (i, _)) => some (.skip (h.putObj r (.map (setVal es i (ρ k) (ρ x)) clock)))
        | some none => some (.skip (h.putObj r (.map (es ++ [{ key := ρ k, val := ρ x, born := clock }]) (clock + 1))))
        | none => none
      | _ => none
    | _, _ => none
  | .range t x =>
    match P.underlying t, ρ x with
    | some .string, .string s => (h.newObj (.strIter s 0)).map fun (h, b) => .value (.pointer (some ⟨b, 0, none⟩)) h
    | some (.map _ _), .map none => (h.newObj (.mapIter none 0 [] 0)).map fun (h, b) => .value (.pointer (some ⟨b, 0, none⟩)) h
    | some (.map _ _), .map (some m) =>
      match h.tree.get m with
      | some (.map _ clock) => (h.newObj (.mapIter (some m) clock [] clock)).map fun (h, b) => .value (.pointer (some ⟨b, 0, none⟩)) h
      | _ => none
    | _, _ => none
  | .next it isString =>
    match ρ it with
    | .pointer (some ⟨r, 0, none⟩) =>
      match cond (Nat.ble 1000 r) (h.tree.get r) none, isString with
      | some (.strIter s pos), true =>
        cond (Nat.blt pos s.size)
          (match Utf8.decode s pos with
           | (c, width) => some (.value (.tuple #[.bool true, .int .i64 pos, .int .i32 c]) (h.putObj r (.strIter s (pos + width)))))
          (some (.value (.tuple #[.bool false]) h))
      | some (.mapIter none _ _ _), false => some (.value (.tuple #[.bool false]) h)
      | some (.mapIter (some m) since seen last), false =>
        match h.tree.get m with
        | some (.map es clock) =>
          cond (!seen.isEmpty && !es.isEmpty && es.all fun e => Nat.ble last e.born) none
            (match es.filter fun e => !(seen.any fun b => Nat.beq b e.born) with
             | [] => some (.value (.tuple #[.bool false]) h)
             | [e] => cond (Nat.blt e.born since) (some (.value (.tuple #[.bool true, e.key, e.val]) (h.putObj r (.mapIter (some m) since (seen ++ [e.born]) clock)))) none
             | _ => none)
        | _ => none
      | _, _ => none
    | _ => none
  | .entry it =>
    match ρ it with
    | .pointer (some ⟨r, 0, none⟩) =>
      match h.tree.get r with
      | some (.mapIter (some m) _ seen stepped) =>
        match h.tree.get m, seen.getLast? with
        | some (.map es clock), some stamp =>
          cond (Nat.beq clock stepped) (match es.find? fun e => Nat.beq e.born stamp with | some e => some (.value (.tuple #[e.key, e.val]) h) | none => none) none
        | _, _ => none
      | _ => none
    | _ => none
  | .typeAssert x _ t ok =>
    match P.underlying t, ρ x with
    | some (.interface _), _ => none
    | some _, .nilIface => cond ok ((zeroVal P t).map fun z => .value (.tuple #[z, .bool false]) h) none
    | some _, .iface u v => if u = t then some (.value (cond ok (.tuple #[v, .bool true]) v) h) else cond ok ((zeroVal P t).map fun z => .value (.tuple #[z, .bool false]) h) none
    | _, _ => none
  | .extract t i => match ρ t with | .tuple vs => (vs.toList[i]?).map fun v => .value v h | _ => none
  | .call c =>
    match c.callee with
    | .builtin b => builtinA P h b c.argTypes (c.args.toList.map ρ)
    | .value f => match ρ f with
      | .func fn first captured => invokeA P X h fn captured (first.toList ++ c.args.toList.map ρ)
      | _ => none
    | .invoke _ _ => none
  | .defer c =>
    match c.callee with
    | .value f => (deferOf (ρ f) (c.args.toList.map ρ)).map fun d => .defer d h
    | _ => none
  | .panic x => match ρ x with | .iface t v => some (.panic (.iface t v) h) | _ => none
  | _ => none

def execA (h : AH) (ρ : Operand → Value) (o : Oper) : Option ANext := cond (okOper o) (opA P X h ρ o) none

def putT (t : PT Value) (n : Nat) (dst : Option Tmp) (v : Value) : Option (PT Value) :=
  match dst with
  | some d => cond (Nat.blt d n) (some (PT.set 64 t d v)) none
  | none => some t

def finishA (fr : AFrame) (v : Value) : Option AFrame :=
  match fr.todo with
  | .inRegion ops (o :: rest) :: k => (putT fr.tmps fr.n o.dst v).map fun t => { fr with tmps := t, todo := .inRegion ops rest :: k }
  | .inRangeFunc l :: k => some { fr with todo := .endRangeFunc l :: k }
  | _ => none

def raiseA (fr : AFrame) (vs : List PanicEntry) : AFrame :=
  match fr.mode with
  | .panicking chain => { fr with mode := .panicking (vs ++ chain) }
  | _ => { fr with mode := .panicking vs }

def enterA (f : FuncId) (args : List Value) (kind : CallKind) : Option AFrame :=
  match P.funcs[f]? with
  | some fn => match fn.body with
    | some c => cond (Nat.blt (max args.length fn.ntmps) 1000000) (some { fn := f, n := max args.length fn.ntmps, tmps := PT.ofList args 0 .leaf, todo := [.code c], defers := [], mode := .run, kind, roundOf := none }) none
    | none => none
  | none => none

def exitToA (id : Nat) : List AItem → Option (List AItem)
  | .inBlock id' :: k => cond (Nat.beq id' id) (some k) (exitToA id k)
  | _ :: k => exitToA id k
  | [] => none

def recoverA (fr : AFrame) (callers : List AFrame) : Option (Value × List AFrame) :=
  match fr.kind, callers with
  | .normal, _ => some (.nilIface, callers)
  | .deferred, c :: rest =>
    match c.mode with
    | .panicking ({ v, recovered := false, goexit := false } :: older) => some (v, { c with mode := .panicking ({ v, recovered := true } :: older) } :: rest)
    | _ => some (.nilIface, callers)
  | _, _ => none

def afterA (fr : AFrame) (callers : List AFrame) (n : ANext) (kind : CallKind := .normal) : Option AS :=
  match n with
  | .value v h => (finishA fr v).map fun fr => { fr, callers, h }
  | .skip h => (finishA fr undef).map fun fr => { fr, callers, h }
  | .enter f args h => (enterA P f args kind).map fun g => { fr := g, callers := fr :: callers, h }
  | .round l f tmps n assign body h => some { fr := { fn := f, n, tmps, todo := [.code assign, .beginRound, .code body], defers := [], mode := .run, kind, roundOf := some l }, callers := fr :: callers, h }
  | .defer d h => match fr.roundOf with
    | none => (finishA { fr with defers := d :: fr.defers } undef).map fun fr => { fr, callers, h }
    | some _ => none
  | .recover h => match fr.roundOf with
    | none => (recoverA fr callers).bind fun (v, callers) => (finishA fr v).map fun fr => { fr, callers, h }
    | some _ => none
  | .panic v h => some { fr := raiseA fr [{ v, recovered := false }], callers, h }

def yieldedA (ops : Array Oper) (tmps : PT Value) (j : Nat) : Option Bool :=
  match ops[j]? with
  | some o => match o.dst with
    | some d => match tmps.get d with | some (.bool b) => some b | _ => none
    | none => none
  | none => none

def wantedA (ops : Array Oper) (tmps : PT Value) (o : Oper) : Bool :=
  match o.guard with
  | none => true
  | some (j, want) => match yieldedA ops tmps j with | some b => b == want | none => false

/-! ## regions that draw their order -/
inductive Cls where
  | pure | read | alloc | effect
  deriving DecidableEq

def clsOf (o : Oper) : Cls :=
  match o.op with
  | .load .. => .read
  | .lookup .. => .read
  | .alloc _ => .alloc
  | .box .. => .alloc
  | .buildSlice .. => .alloc
  | .makeMap _ none => .alloc
  | .move _ | .assign _ | .pick .. | .build .. | .nilCheck _ | .binOp .. | .unOp .. | .makeInterface .. | .makeFunc ..
  | .slice .. | .fieldAddr .. | .field .. | .indexAddr .. | .index .. | .typeAssert .. | .extract .. => .pure
  | .convert _ d _ => match P.underlying d with | some (.int _) => .pure | some .string => .read | _ => .effect
  | .call { callee := .builtin .len, .. } => .read
  | .call { callee := .builtin .max, .. } => .pure
  | .call { callee := .builtin .min, .. } => .pure
  | _ => .effect

def isEff (o : Oper) : Bool := match clsOf P o with | .effect => true | _ => false

def preds (o : Oper) : List Nat := (o.after.toList.filter fun e => Region.binds .any e).map (·.on)

/-- an operation of a region, with what is reckoned of it: its place, how many effects stand ahead of it in the text, the stage from which on it may come, the last stage at which it may come. -/
structure Row where
  i : Nat
  o : Oper
  no : Nat
  e0 : Nat
  l : Nat

def rows0 : List Oper → Nat → Nat → List Row
  | [], _, _ => []
  | o :: os, i, no => { i, o, no, e0 := 0, l := 0 } :: rows0 os (i + 1) (no + cond (isEff P o) 1 0)

def valE (done : List Row) (p : Nat) : Nat :=
  match done.find? fun r => Nat.beq r.i p with
  | some r => cond (isEff P r.o) (r.no + 1) r.e0
  | none => 0

def fillE : List Row → List Row → List Row
  | done, [] => done.reverse
  | done, r :: rs => fillE ({ r with e0 := (preds r.o).foldl (fun m p => max m (valE P done p)) 0 } :: done) rs

def valL (later : List Row) (k i : Nat) : Nat :=
  later.foldl (fun m q => cond ((preds q.o).any (Nat.beq · i)) (min m (cond (isEff P q.o) q.no q.l)) m) k

def fillL (k : Nat) : List Row → List Row
  | [] => []
  | r :: rs => let later := fillL k rs; { r with l := valL P later k r.i } :: later

/-- a region's numbers, as they are reckoned. Nothing is asked of them: okRows asks. -/
def numbers (ops : List Oper) : List (Nat × Nat × Nat) :=
  (fillL P (ops.countP (isEff P)) (fillE P [] (rows0 P ops 0 0))).map fun r => (r.no, r.e0, r.l)

def mkRows : List Oper → List (Nat × Nat × Nat) → Nat → List Row
  | o :: os, (no, e0, l) :: ns, i => { i, o, no, e0, l } :: mkRows os ns (i + 1)
  | o :: os, [], i => { i, o, no := 0, e0 := 0, l := 0 } :: mkRows os [] (i + 1)
  | [], _, _ => []

def rowsOf (ops : Array Oper) : List Row := mkRows ops.toList (numbers P ops.toList) 0

def writer (rs : List Row) (t : Tmp) : Option Nat :=
  match rs.find? fun r => match r.o.dst with | some d => Nat.beq d t | none => false with
  | some r => some r.i
  | none => none

def tmpsIn (o : Oper) : List Tmp := o.op.operands.toList.filterMap fun | .tmp t => some t | _ => none

/-- what the proof asks of a region's table. -/
def okRow (rs : List Row) (k : Nat) (r : Row) : Bool :=
  let ps := preds r.o
  (ps.all fun p => Nat.blt p r.i) &&
  (Nat.beq r.e0 0 || ps.any fun p => match rs[p]? with | some q => Nat.ble r.e0 (cond (isEff P q.o) (q.no + 1) q.e0) | none => false) &&
  (Nat.ble k r.l || rs.any fun q => (preds q.o).any (Nat.beq · r.i) && Nat.ble (cond (isEff P q.o) q.no q.l) r.l) &&
  (!(isEff P r.o) || Nat.ble r.no r.e0) &&
  (match r.o.dst with
   | some d => rs.all fun q => Nat.beq q.i r.i || (match q.o.dst with | some e => !(Nat.beq d e) | none => true)
   | none => true) &&
  ((tmpsIn r.o).all fun t => match writer rs t with
   | none => true
   | some w => Nat.beq w r.i || ps.any (Nat.beq · w) || (match rs[w]? with | some q => (preds q.o).any (Nat.beq · r.i) | none => false)) &&
  (match r.o.guard with
   | none => true
   | some (g, _) => ps.any (Nat.beq · g) && (match rs[g]? with | some q => q.o.dst.isSome | none => false))

/-- the effects are numbered one after the other. -/
def okNos : List Row → Nat → Bool
  | [], _ => true
  | r :: rs, k => cond (isEff P r.o) (Nat.beq r.no k && okNos rs (k + 1)) (okNos rs k)

/-- an order in which each operation stands behind those that bind it. -/
def okLin (m : Region.Mode) (ops : Array Oper) : List Nat → List Nat → Bool
  | [], _ => true
  | i :: c, done =>
    (match ops[i]? with
     | some o => o.after.toList.all fun e => !(Region.binds m e) || done.any (Nat.beq e.on)
     | none => false) && okLin m ops c (i :: done)

def okOrder (m : Region.Mode) (ops : Array Oper) (c : List Nat) : Bool := okLin m ops c [] && (List.range ops.size).all fun i => c.any (Nat.beq i)

def okOrders (ops : Array Oper) : Bool :=
  cond (P.follows .mixedOrders || !(Region.departs ops)) (okOrder .any ops (List.range ops.size))
    (okOrder .text ops (List.range ops.size) && okOrder .gc ops (Region.linearise .gc ops 0))

def okRows (ops : Array Oper) (rs : List Row) (k : Nat) : Bool := (rs.all (okRow P rs k)) && okNos P rs 0 && okOrders P ops

def evalR (rs : List Row) (T0 : PT Value) (vals : PT Value) (r : Row) : Operand → Value
  | .tmp t => match writer rs t with
    | some w => cond ((preds r.o).any (Nat.beq · w)) ((vals.get w).getD undef) ((T0.get t).getD undef)
    | none => (T0.get t).getD undef
  | .const v => v
  | .global g => .pointer (some ⟨g, 0, none⟩)
  | .func f => .func (.func f) #[] #[]

def wantedR (vals : PT Value) (o : Oper) : Bool :=
  match o.guard with
  | none => true
  | some (j, want) => match vals.get j with | some (.bool b) => b == want | _ => false


/-- the non-effects that may come from this stage on are reckoned. -/
def stageA (rs : List Row) (T0 : PT Value) (j : Nat) : List Row → PT Value → AH → Option (PT Value × AH)
  | [], vals, h => some (vals, h)
  | r :: more, vals, h =>
    cond (isEff P r.o || !(Nat.beq r.e0 j)) (stageA rs T0 j more vals h)
      (cond (wantedR vals r.o)
        (match execA P X h (evalR rs T0 vals r) r.o with
         | some (.value v h') => stageA rs T0 j more (PT.set 64 vals r.i v) h'
         | _ => none)
        (stageA rs T0 j more (PT.set 64 vals r.i undef) h))

/-- what was made ahead of its time still is as it would be made now. -/
def checkNew (rs : List Row) (T0 vals : PT Value) (h : AH) (r : Row) (u : Value) (b : Nat) : Bool :=
  match execA P X { h with next := b } (evalR rs T0 vals r) r.o with
  | some (.value v h') => veq u v && (h.fams.get b).isNone &&
    (match h.tree.get b, h'.tree.get b with
     | some (.row cs n es f d), some (.row ds m es' _ _) => Nat.beq n m && Nat.beq es es' && veqs cs ds && Nat.beq f b && Nat.beq d 0
     | some (.map [] 0), some (.map [] 0) => true
     | _, _ => false)
  | _ => false

def checkR (rs : List Row) (T0 vals : PT Value) (h : AH) (r : Row) : Bool :=
  match vals.get r.i with
  | none => false
  | some u =>
    cond (wantedR vals r.o)
      (match clsOf P r.o with
       | .effect => false
       | .alloc => match u with
         | .pointer (some a) => checkNew P X rs T0 vals h r u a.block
         | .slice (some a) _ _ => checkNew P X rs T0 vals h r u a.block
         | .map (some b) => checkNew P X rs T0 vals h r u b
         | _ => false
       | _ => match execA P X h (evalR rs T0 vals r) r.o with
         | some (.value v _) => veq u v
         | _ => false)
      (veq u undef)

def checkAll (rs : List Row) (T0 vals : PT Value) (h : AH) (j : Nat) : Bool :=
  rs.all fun r => isEff P r.o || Nat.blt j r.e0 || Nat.blt r.l j || checkR P X rs T0 vals h r

def stageR (rs : List Row) (T0 : PT Value) (j : Nat) (vals : PT Value) (h : AH) : Option (PT Value × AH) :=
  match stageA P X rs T0 j rs vals h with
  | some (vals, h) => cond (checkAll P X rs T0 vals h j) (some (vals, h)) none
  | none => none

def effR (sub : AH → FuncId → List Value → Option (Value × AH)) (rs : List Row) (T0 : PT Value) (r : Row) (vals : PT Value) (h : AH) : Option (Value × AH) :=
  cond (wantedR vals r.o)
    (match execA P X h (evalR rs T0 vals r) r.o with
     | some (.value v h) => some (v, h)
     | some (.skip h) => some (undef, h)
     | some (.enter f args h) => sub h f args
     | _ => none) (some (undef, h))

def regionR (sub : AH → FuncId → List Value → Option (Value × AH)) (rs : List Row) (T0 : PT Value) : List Row → PT Value → AH → Option (PT Value × AH)
  | [], vals, h => some (vals, h)
  | r :: more, vals, h =>
    match effR P X sub rs T0 r vals h with
    | some (v, h) => match stageR P X rs T0 (r.no + 1) (PT.set 64 vals r.i v) h with
      | some (vals, h) => regionR sub rs T0 more vals h
      | none => none
    | none => none

def putAll (n : Nat) : List Row → PT Value → PT Value → Option (PT Value)
  | [], _, T => some T
  | r :: rs, vals, T => match putT T n r.o.dst ((vals.get r.i).getD undef) with
    | some T => putAll n rs vals T
    | none => none

def drawR (sub : AH → FuncId → List Value → Option (Value × AH)) (ops : Array Oper) (n : Nat) (T0 : PT Value) (h : AH) : Option (PT Value × AH) :=
  let rs := rowsOf P ops
  cond (okRows P ops rs (ops.toList.countP (isEff P)) && Nat.blt rs.length 1000000 && rs.all fun r => match r.o.dst with | some d => Nat.blt d n | none => true)
    (match stageR P X rs T0 0 .leaf h with
     | some (vals, h) => match regionR P X sub rs T0 (rs.filter fun r => isEff P r.o) vals h with
       | some (vals, h) => (putAll n rs vals T0).map fun T => (T, h)
       | none => none
     | none => none)
    none

/-- leave: the end of a body; of a round it ends the round. -/
def leaveA (s : AS) (jump : Option Code) (plain : Bool) : Option AS :=
  match s.fr.roundOf with
  | none => cond plain (some { s with fr := { s.fr with mode := .returning } }) none
  | some l =>
    match cond (Nat.ble 1000 l) (s.h.tree.get l) none, s.callers with
    | some (.loop _ _ fn tmps n params assign body defers), c :: rest =>
      match s.fr.kind with
      | .normal => (finishA c (.bool jump.isNone)).map fun c => { fr := c, callers := rest, h := s.h.putObj l (.loop (cond jump.isNone .ready .done) jump fn tmps n params assign body defers) }
      | _ => none
    | _, _ => none

def resultsA (h : AH) (fr : AFrame) : List ResultVar → Option (List Value)
  | [] => some []
  | .tmp t :: l => (resultsA h fr l).map ((fr.tmps.get t).getD undef :: ·)
  | .cell a t :: l =>
    match (fr.tmps.get a).getD undef with
    | .pointer (some a) =>
      cond (P.underlying t).isSome ((cond (isAgg P t) ((sizeOf P t).bind fun n => (h.cellsAt a.block a.off n).map fun cs => Value.agg cs.toArray) (h.cellAt a.block a.off)).bind fun v => (resultsA h fr l).map (v :: ·)) none
    | _ => none

def resultA (h : AH) (fr : AFrame) : Option Value :=
  match P.funcs[fr.fn]? with
  | some fn => (resultsA P h fr fn.results.toList).map fun vs => match vs with | [v] => v | vs => .tuple vs.toArray
  | none => none

def enterLoopA (h : AH) (fr : AFrame) (params : List Tmp) (assign body : Code) : Option (AH × Nat × List Deferred) :=
  match fr.roundOf with
  | some l => match h.tree.get l with
    | some (.loop _ _ _ _ _ _ _ _ d) => (h.newObj (.loop .ready none fr.fn fr.tmps fr.n params assign body d)).map fun (h, l) => (h, l, [])
    | _ => none
  | none => (h.newObj (.deferred (some []))).bind fun (h, r) => (h.newObj (.loop .ready none fr.fn fr.tmps fr.n params assign body r)).map fun (h, l) => (h, l, [{ target := .collected r, args := #[] }])

def stepA (sub : AH → FuncId → List Value → Option (Value × AH)) (s : AS) : Option AS :=
  match s.fr.mode with
  | .run =>
    match s.fr.todo with
    | [] => leaveA s none true
    | .code .ret :: _ => leaveA s (some .ret) true
    | .code .skip :: k => some { s with fr := { s.fr with todo := k } }
    | .inBlock _ :: k => some { s with fr := { s.fr with todo := k } }
    | .code (.seq a b) :: k => some { s with fr := { s.fr with todo := .code a :: .code b :: k } }
    | .code (.cond c a b) :: k => match s.fr.eval c with | .bool t => some { s with fr := { s.fr with todo := .code (cond t a b) :: k } } | _ => none
    | .code (.block id body) :: k => some { s with fr := { s.fr with todo := .code body :: .inBlock id :: k } }
    | .code (.loop body) :: k => some { s with fr := { s.fr with todo := .code body :: .inLoop body :: k } }
    | .inLoop body :: k => some { s with fr := { s.fr with todo := .code body :: .inLoop body :: k } }
    | .code (.exit id) :: k => match exitToA id k with | some k => some { s with fr := { s.fr with todo := k } } | none => leaveA s (some (.exit id)) false
    | .code (.region _ ops draw) :: k =>
      cond draw ((drawR P X sub ops s.fr.n s.fr.tmps s.h).map fun (T, h) => { s with fr := { s.fr with tmps := T, todo := k }, h })
        (some { s with fr := { s.fr with todo := .inRegion ops ops.toList :: k } })
    | .inRegion _ [] :: k => some { s with fr := { s.fr with todo := k } }
    | .inRegion ops (o :: _) :: _ =>
      cond (wantedA ops s.fr.tmps o) ((execA P X s.h s.fr.eval o).bind fun n => afterA P s.fr s.callers n)
        ((finishA s.fr undef).map fun fr => { s with fr })
    | .code (.rangeFunc f params assign body) :: k =>
      (enterLoopA s.h s.fr params.toList assign body).bind fun (h, l, mark) =>
        match cond (okOpd f) (s.fr.eval f) .nilFunc with
        | .func fn first captured => (invokeA P X h fn captured (first.toList ++ [.func (.yield l) #[] #[]])).bind fun n => afterA P { s.fr with todo := .inRangeFunc l :: k, defers := mark ++ s.fr.defers } s.callers n
        | _ => none
    | .beginRound :: k =>
      match s.fr.roundOf with
      | some l => match cond (Nat.ble 1000 l) (s.h.tree.get l) none with
        | some (.loop .ready pending fn tmps n params assign body defers) => some { s with fr := { s.fr with todo := k }, h := s.h.putObj l (.loop .busy pending fn tmps n params assign body defers) }
        | _ => none
      | none => none
    | .endRangeFunc l :: k =>
      match cond (Nat.ble 1000 l) (s.h.tree.get l) none with
      | some (.loop state pending fn tmps n params assign body defers) =>
        match state with
        | .busy => none
        | _ => some { s with fr := { s.fr with todo := (match pending with | some c => [.code c] | none => []) ++ k }, h := s.h.putObj l (.loop .exhausted pending fn tmps n params assign body defers) }
      | _ => none
    | _ => none
  | mode =>
    match s.fr.defers with
    | { target := .collected b, .. } :: ds =>
      match cond (Nat.ble 1000 b) (s.h.tree.get b) none with
      | some (.deferred (some calls)) => some { s with fr := { s.fr with defers := calls ++ ds }, h := s.h.putObj b (.deferred none) }
      | _ => none
    | { target := .fn fn captured, args } :: ds =>
      (invokeA P X s.h fn captured args.toList).bind fun n => match n with
        | .enter f args h => (enterA P f args .deferred).map fun g => { fr := g, callers := { s.fr with defers := ds } :: s.callers, h }
        | _ => none
    | _ :: _ => none
    | [] =>
      match mode, s.callers with
      | .panicking chain, c :: rest => some { fr := raiseA c chain, callers := rest, h := s.h }
      | .returning, c :: rest =>
        (resultA P s.h s.fr).bind fun v =>
          match s.fr.kind with
          | .normal => (finishA c v).map fun c => { fr := c, callers := rest, h := s.h }
          | .deferred =>
            match c.mode with
            | .panicking ({ recovered := true, .. } :: older) => cond (older.all fun p => !p.goexit) (some { fr := { c with mode := .returning }, callers := rest, h := s.h }) none
            | _ => some { fr := c, callers := rest, h := s.h }
          | _ => none
      | _, _ => none

def isEnd (s : AS) : Bool :=
  match s.fr.mode, s.fr.defers, s.callers with
  | .returning, [], [] => true
  | _, _, _ => false

def answerOf (f : FuncId) (r : AS) : Option (Value × AH) :=
  match r.fr.kind with
  | .normal => cond (isEnd r && Nat.beq r.fr.fn f) ((resultA P r.h r.fr).map fun v => (v, r.h)) none
  | _ => none

def runA : Nat → AS → AS
  | 0, s => s
  | n + 1, s => cond (isEnd s) s
    (match stepA P X (fun h f args => match enterA P f args .normal with
        | some fr => answerOf P f (runA n { fr, callers := [], h })
        | none => none) s with
     | some s' => runA n s'
     | none => s)

def startA (f : FuncId) (args : List Value) : Option AS :=
  (enterA P f args .normal).map fun fr => { fr, callers := [], h := { tree := .leaf, fams := .leaf, next := 1000 } }
end
end Go.AM

namespace Go.AM
open Go

theorem nbeq (a b : Nat) : Nat.beq a b = decide (a = b) := by
  rw [Bool.eq_iff_iff]; simp

theorem nble (a b : Nat) : Nat.ble a b = decide (a ≤ b) := by
  rw [Bool.eq_iff_iff]; simp

theorem nblt (a b : Nat) : Nat.blt a b = decide (a < b) := by
  rw [Nat.blt, nble]; rfl

/-! ## tries -/
theorem PT.get_leaf {α : Type} (n : Nat) : (PT.leaf : PT α).get n = none := rfl

theorem PT.get_node {α : Type} (l r : PT α) (v : Option α) (n : Nat) :
    (PT.node l v r).get n = if n = 0 then v else if n % 2 = 1 then l.get (n / 2) else r.get (n / 2 - 1) := by
  simp only [PT.get, nbeq]
  by_cases h0 : n = 0
  · simp [h0]
  · by_cases h1 : n % 2 = 1
    · simp [h0, h1]
    · simp only [h0, h1, decide_false, cond_false, if_false]

theorem PT.set_succ {α : Type} (f : Nat) (t : PT α) (n : Nat) (x : α) :
    PT.set (f + 1) t n x = match t with
      | .leaf => if n = 0 then .node .leaf (some x) .leaf else if n % 2 = 1 then .node (PT.set f .leaf (n / 2) x) none .leaf else .node .leaf none (PT.set f .leaf (n / 2 - 1) x)
      | .node l v r => if n = 0 then .node l (some x) r else if n % 2 = 1 then .node (PT.set f l (n / 2) x) v r else .node l v (PT.set f r (n / 2 - 1) x) := by
  cases t <;> simp only [PT.set, nbeq]
  all_goals
    by_cases h0 : n = 0
    · simp [h0]
    · by_cases h1 : n % 2 = 1
      · simp [h0, h1]
      · simp only [h0, h1, decide_false, cond_false, if_false]

theorem PT.get_set_aux {α : Type} : ∀ (f : Nat) (t : PT α) (n m : Nat) (x : α), n + 1 < 2 ^ f →
    (PT.set f t n x).get m = if m = n then some x else t.get m := by
  intro f
  induction f with
  | zero => intro t n m x h; simp at h
  | succ f ih =>
    intro t n m x h
    have hp : 2 ^ (f + 1) = 2 * 2 ^ f := by rw [Nat.pow_succ, Nat.mul_comm]
    rw [hp] at h
    rw [PT.set_succ]
    have key : ∀ (l r : PT α) (v : Option α), (if n = 0 then PT.node l (some x) r else if n % 2 = 1 then .node (PT.set f l (n / 2) x) v r else .node l v (PT.set f r (n / 2 - 1) x)).get m = if m = n then some x else (PT.node l v r).get m := by
      intro l r v
      by_cases h0 : n = 0
      · subst h0
        rw [if_pos rfl, PT.get_node]
        by_cases hm : m = 0
        · rw [if_pos hm, if_pos hm]
        · rw [if_neg hm, if_neg hm, PT.get_node, if_neg hm]
      · rw [if_neg h0]
        by_cases h1 : n % 2 = 1
        · rw [if_pos h1, PT.get_node, PT.get_node]
          by_cases hm : m = 0
          · rw [if_pos hm, if_pos hm, if_neg (by omega)]
          · rw [if_neg hm, if_neg hm]
            by_cases hm1 : m % 2 = 1
            · rw [if_pos hm1, if_pos hm1, ih _ _ _ _ (by omega)]
              by_cases he : m = n
              · rw [if_pos he, if_pos (by rw [he])]
              · rw [if_neg he, if_neg (by omega)]
            · rw [if_neg hm1, if_neg hm1, if_neg (by omega)]
        · rw [if_neg h1, PT.get_node, PT.get_node]
          by_cases hm : m = 0
          · rw [if_pos hm, if_pos hm, if_neg (by omega)]
          · rw [if_neg hm, if_neg hm]
            by_cases hm1 : m % 2 = 1
            · rw [if_pos hm1, if_pos hm1, if_neg (by omega)]
            · rw [if_neg hm1, if_neg hm1, ih _ _ _ _ (by omega)]
              by_cases he : m = n
              · rw [if_pos he, if_pos (by rw [he])]
              · rw [if_neg he, if_neg (by omega)]
    cases t with
    | leaf =>
      have := key .leaf .leaf none
      simp only [] at this ⊢
      rw [this, PT.get_node]
      simp only [PT.get_leaf]
      split <;> simp
    | node l v r => exact key l r v

/-- places stay below this. -/
def far : Nat := 18446744073709551615

theorem PT.get_set {α : Type} (t : PT α) (n m : Nat) (x : α) (h : n < far) : (PT.set 64 t n x).get m = if m = n then some x else t.get m :=
  PT.get_set_aux 64 t n m x (by unfold far at h; omega)
end Go.AM

namespace Go.AM
open Go

/-! ## lists and arrays of cells -/
theorem getElem?_ovr : ∀ (cs vs : List Value) (i : Nat), (over.ovr cs vs)[i]? = if i < vs.length ∧ i < cs.length then vs[i]? else cs[i]?
  | cs, [], i => by cases cs <;> simp [over.ovr]
  | [], v :: vs, i => by simp [over.ovr]
  | c :: cs, v :: vs, 0 => by simp [over.ovr]
  | c :: cs, v :: vs, i + 1 => by
    simp only [over.ovr, List.getElem?_cons_succ, getElem?_ovr cs vs i, List.length_cons, Nat.add_lt_add_iff_right]

theorem length_ovr : ∀ (cs vs : List Value), (over.ovr cs vs).length = cs.length
  | cs, [] => by cases cs <;> simp [over.ovr]
  | [], v :: vs => by simp [over.ovr]
  | c :: cs, v :: vs => by simp [over.ovr, length_ovr cs vs]

theorem getElem?_over : ∀ (cs : List Value) (off : Nat) (vs : List Value) (i : Nat),
    (over cs off vs)[i]? = if off ≤ i ∧ i < off + vs.length ∧ i < cs.length then vs[i - off]? else cs[i]?
  | cs, 0, vs, i => by
    have : over cs 0 vs = over.ovr cs vs := by cases cs <;> simp [over]
    rw [this, getElem?_ovr]; simp
  | [], off + 1, vs, i => by simp [over]
  | c :: cs, off + 1, vs, 0 => by simp [over]
  | c :: cs, off + 1, vs, i + 1 => by
    simp only [over, List.getElem?_cons_succ, getElem?_over cs off vs i, List.length_cons, Nat.add_le_add_iff_right, Nat.add_sub_add_right, Nat.add_lt_add_iff_right]
    congr 1
    rw [eq_iff_iff]; omega

theorem length_over : ∀ (cs : List Value) (off : Nat) (vs : List Value), (over cs off vs).length = cs.length
  | cs, 0, vs => by
    have : over cs 0 vs = over.ovr cs vs := by cases cs <;> simp [over]
    rw [this, length_ovr]
  | [], off + 1, vs => by simp [over]
  | c :: cs, off + 1, vs => by simp [over, length_over cs off vs]

def writeAt (arr : Array Value) : Nat → List Value → Array Value
  | _, [] => arr
  | k, v :: vs => writeAt (arr.setIfInBounds k v) (k + 1) vs

theorem size_writeAt : ∀ (vs : List Value) (arr : Array Value) (k : Nat), (writeAt arr k vs).size = arr.size
  | [], arr, k => rfl
  | v :: vs, arr, k => by rw [writeAt, size_writeAt vs]; simp

theorem getElem?_writeAt : ∀ (vs : List Value) (arr : Array Value) (k i : Nat), k + vs.length ≤ arr.size →
    (writeAt arr k vs)[i]? = if k ≤ i ∧ i < k + vs.length then vs[i - k]? else arr[i]?
  | [], arr, k, i, _ => by
    rw [writeAt, if_neg (by simp)]
  | v :: vs, arr, k, i, h => by
    simp only [List.length_cons] at h
    rw [writeAt, getElem?_writeAt vs _ _ _ (by simp; omega)]
    by_cases h1 : k + 1 ≤ i ∧ i < k + 1 + vs.length
    · rw [if_pos h1, if_pos (by simp only [List.length_cons]; omega)]
      rw [show i - k = (i - (k + 1)) + 1 by omega, List.getElem?_cons_succ]
    · rw [if_neg h1]
      by_cases h2 : i = k
      · subst h2
        rw [if_pos (by simp only [List.length_cons]; omega)]
        simp only [Nat.sub_self, List.getElem?_cons_zero]
        rw [Array.getElem?_setIfInBounds]
        rw [if_pos rfl, if_pos (by omega)]
      · rw [if_neg (by simp only [List.length_cons]; omega)]
        rw [Array.getElem?_setIfInBounds_ne (by omega)]

def putRow (w : World) (c : Nat) (arr : Array Value) (t : TypeId) (fz : Nat × Nat) : World :=
  { w with heap := w.heap.setIfInBounds c (.cells arr t fz) }

theorem heap_putRow (w : World) (c : Nat) (arr : Array Value) (t : TypeId) (fz : Nat × Nat) (i : Nat) :
    (putRow w c arr t fz).heap[i]? = if i = c ∧ c < w.heap.size then some (.cells arr t fz) else w.heap[i]? := by
  simp only [putRow, Array.getElem?_setIfInBounds]
  by_cases h : c = i
  · subst h
    by_cases h2 : c < w.heap.size
    · rw [if_pos rfl, if_pos h2, if_pos ⟨rfl, h2⟩]
    · rw [if_pos rfl, if_neg h2, if_neg (by omega), Array.getElem?_eq_none (by omega)]
  · rw [if_neg h, if_neg (by omega)]

theorem size_putRow (w : World) (c : Nat) (arr : Array Value) (t : TypeId) (fz : Nat × Nat) : (putRow w c arr t fz).heap.size = w.heap.size := by
  simp [putRow]

theorem lt_of_heap {w : World} {c : Nat} {o : Obj} (h : w.heap[c]? = some o) : c < w.heap.size := by
  rcases Nat.lt_or_ge c w.heap.size with hlt | hge
  · exact hlt
  · rw [Array.getElem?_eq_none hge] at h; cases h

theorem putRow_self {w : World} {c : Nat} {arr : Array Value} {t : TypeId} {fz : Nat × Nat} (h : w.heap[c]? = some (.cells arr t fz)) : putRow w c arr t fz = w := by
  have : w.heap.setIfInBounds c (.cells arr t fz) = w.heap := by
    apply Array.ext_getElem?
    intro i
    rw [Array.getElem?_setIfInBounds]
    by_cases hi : c = i
    · subst hi; rw [if_pos rfl, if_pos (lt_of_heap h), h]
    · rw [if_neg hi]
  unfold putRow; rw [this]

theorem putRow_putRow (w : World) (c : Nat) (a1 a2 : Array Value) (t : TypeId) (fz : Nat × Nat) :
    putRow (putRow w c a1 t fz) c a2 t fz = putRow w c a2 t fz := by
  simp [putRow, Array.setIfInBounds_setIfInBounds]

/-- none of a row's cells is frozen. -/
def Thawed (arr : Array Value) (fz : Nat × Nat) : Prop := fz.1 = fz.2 ∨ arr.size ≤ fz.1

theorem setCell_row {w : World} {c : Nat} {arr : Array Value} {t : TypeId} {fz : Nat × Nat} (h : w.heap[c]? = some (.cells arr t fz)) (k : Nat) (v : Value) :
    w.setCell ⟨c, k, none⟩ v = putRow w c (arr.setIfInBounds k v) t fz := by
  have : (w.heap.modify c fun
      | .cells c elem frozen => .cells (c.setIfInBounds k v) elem frozen
      | o => o) = w.heap.setIfInBounds c (.cells (arr.setIfInBounds k v) t fz) := by
    apply Array.ext_getElem?
    intro i
    rw [Array.getElem?_setIfInBounds, Array.getElem?_modify]
    by_cases hi : c = i
    · subst hi
      rw [if_pos rfl, if_pos (lt_of_heap h), if_pos rfl, h]; rfl
    · rw [if_neg hi, if_neg hi]
  simp only [World.setCell, putRow, Option.isSome_none, Bool.false_eq_true, if_false]
  congr 1

theorem cell_row {w : World} {c : Nat} {arr : Array Value} {t : TypeId} {fz : Nat × Nat} (h : w.heap[c]? = some (.cells arr t fz)) (k : Nat) :
    w.cell? ⟨c, k, none⟩ = arr[k]? := by simp [World.cell?, h]

theorem thawed_row {w : World} {c : Nat} {arr : Array Value} {t : TypeId} {fz : Nat × Nat} (h : w.heap[c]? = some (.cells arr t fz)) (hf : Thawed arr fz) (k : Nat) (hk : k < arr.size) :
    w.frozen? ⟨c, k, none⟩ = false := by
  obtain ⟨lo, hi⟩ := fz
  have := hf
  unfold Thawed at this
  simp only [World.frozen?, h]
  simp only [Bool.and_eq_false_iff, decide_eq_false_iff_not]
  omega

theorem run_storeCells (P : Program) (c o : Nat) (t : TypeId) (fz : Nat × Nat) : ∀ (vs : List Value) (w : World) (arr : Array Value) (i : Nat),
    w.heap[c]? = some (.cells arr t fz) → vs.all plainCell = true → o + i + vs.length ≤ arr.size → Thawed arr fz →
    (storeCells ⟨c, o, none⟩ vs i).run P w = .ok () (putRow w c (writeAt arr (o + i) vs) t fz)
  | [], w, arr, i, h, _, _, _ => by simp [storeCells, writeAt, putRow_self h]
  | v :: vs, w, arr, i, h, hp, hl, hf => by
    simp only [List.all_cons, Bool.and_eq_true] at hp
    simp only [List.length_cons] at hl
    have hone : v.oneCell' = true := by cases v <;> simp_all [plainCell, Value.oneCell']
    have hcell : w.cell? ⟨c, o + i, none⟩ = some (arr[o + i]'(by omega)) := by rw [cell_row h]; exact Array.getElem?_eq_getElem (by omega)
    simp only [storeCells, Addr.add_lit, Sem.run_bind, run_store P w _ v .plain hone, hcell, thawed_row h hf _ (show o + i < arr.size by omega), Bool.false_eq_true, if_false,
      Result.andThen_ok, setCell_row h]
    rw [run_storeCells P c o t fz vs _ (arr.setIfInBounds (o + i) v) (i + 1) (by rw [heap_putRow, if_pos ⟨rfl, lt_of_heap h⟩]) hp.2 (by simp; omega) (by unfold Thawed at hf ⊢; simpa using hf),
      putRow_putRow, writeAt]
    rfl

/-! ## the relation of values -/
structure Env where
  loc : Nat → Option (Nat × Nat)
  sz : Nat → Nat
  fam : Nat → Nat
  delta : Nat → Nat
  len : Nat → Nat
  es : Nat → Nat
  nx : Nat

def Env.mk0 : Env := ⟨fun _ => none, fun _ => 0, fun _ => 0, fun _ => 0, fun _ => 0, fun _ => 0, 0⟩

structure Env.sub (e e' : Env) : Prop where
  loc : ∀ b c d, e.loc b = some (c, d) → e'.loc b = some (c, d)
  sz : ∀ b c d, e.loc b = some (c, d) → e'.sz c = e.sz c
  fam : ∀ b c d, e.loc b = some (c, d) → e'.fam b = e.fam b
  delta : ∀ b c d, e.loc b = some (c, d) → e'.delta b = e.delta b
  len : ∀ b c d, e.loc b = some (c, d) → e'.len b = e.len b
  es : ∀ b c d, e.loc b = some (c, d) → e'.es b = e.es b

structure Env.le (e e' : Env) : Prop where
  sub : e.sub e'
  nx : e.nx ≤ e'.nx
  new : ∀ b x, e'.loc b = some x → e.loc b = some x ∨ (e.nx ≤ b ∧ (e.nx ≤ e'.fam b ∨ ∃ b0 x0, e.loc b0 = some x0 ∧ e'.fam b = e.fam b0))

theorem Env.le.loc {e e' : Env} (h : e.le e') : ∀ b c d, e.loc b = some (c, d) → e'.loc b = some (c, d) := h.sub.loc
theorem Env.le.sz {e e' : Env} (h : e.le e') : ∀ b c d, e.loc b = some (c, d) → e'.sz c = e.sz c := h.sub.sz
theorem Env.le.fam {e e' : Env} (h : e.le e') : ∀ b c d, e.loc b = some (c, d) → e'.fam b = e.fam b := h.sub.fam
theorem Env.le.delta {e e' : Env} (h : e.le e') : ∀ b c d, e.loc b = some (c, d) → e'.delta b = e.delta b := h.sub.delta
theorem Env.le.len {e e' : Env} (h : e.le e') : ∀ b c d, e.loc b = some (c, d) → e'.len b = e.len b := h.sub.len
theorem Env.le.es {e e' : Env} (h : e.le e') : ∀ b c d, e.loc b = some (c, d) → e'.es b = e.es b := h.sub.es

theorem Env.sub_refl (e : Env) : e.sub e := ⟨fun _ _ _ h => h, fun _ _ _ _ => rfl, fun _ _ _ _ => rfl, fun _ _ _ _ => rfl, fun _ _ _ _ => rfl, fun _ _ _ _ => rfl⟩

theorem Env.sub_trans {a b c : Env} (h : a.sub b) (k : b.sub c) : a.sub c :=
  ⟨fun _ _ _ g => k.loc _ _ _ (h.loc _ _ _ g), fun _ _ _ g => (k.sz _ _ _ (h.loc _ _ _ g)).trans (h.sz _ _ _ g), fun _ _ _ g => (k.fam _ _ _ (h.loc _ _ _ g)).trans (h.fam _ _ _ g),
   fun _ _ _ g => (k.delta _ _ _ (h.loc _ _ _ g)).trans (h.delta _ _ _ g), fun _ _ _ g => (k.len _ _ _ (h.loc _ _ _ g)).trans (h.len _ _ _ g), fun _ _ _ g => (k.es _ _ _ (h.loc _ _ _ g)).trans (h.es _ _ _ g)⟩

theorem Env.le_refl (e : Env) : e.le e := ⟨e.sub_refl, Nat.le_refl _, fun _ _ h => .inl h⟩

theorem Env.le_trans {a b c : Env} (h : a.le b) (k : b.le c) : a.le c :=
  ⟨Env.sub_trans h.sub k.sub,
   Nat.le_trans h.nx k.nx, fun x y g => by
    rcases k.new x y g with g1 | ⟨g1, g2⟩
    · rcases h.new x y g1 with g3 | ⟨g3, g4⟩
      · exact .inl g3
      · rw [k.fam x y.1 y.2 g1]; exact .inr ⟨g3, g4⟩
    · have hn := h.nx
      refine .inr ⟨Nat.le_trans hn g1, ?_⟩
      rcases g2 with g2 | ⟨b0, x0, g2, g3⟩
      · exact .inl (Nat.le_trans hn g2)
      · rcases h.new b0 x0 g2 with g4 | ⟨g4, g5⟩
        · exact .inr ⟨b0, x0, g4, by rw [g3, h.fam b0 x0.1 x0.2 g4]⟩
        · rw [g3]; exact g5⟩

inductive FnRel (e : Env) : Fn → Fn → Prop where
  | func (f : FuncId) : FnRel e (.func f) (.func f)
  | via (t : TypeId) (p : Array FieldStep) (f : FuncId) (q : Bool) : FnRel e (.via t p f q) (.via t p f q)
  | yield {l l' : Nat} : e.loc l = some (l', 0) → FnRel e (.yield l) (.yield l')

inductive VRel (e : Env) : Value → Value → Prop where
  | bool (b : Bool) : VRel e (.bool b) (.bool b)
  | int (k : IntKind) (n : Int) : VRel e (.int k n) (.int k n)
  | string (s : ByteArray) : VRel e (.string s) (.string s)
  | nilptr : VRel e (.pointer none) (.pointer none)
  | ptr {b c d o : Nat} : e.loc b = some (c, d) → VRel e (.pointer (some ⟨b, o, none⟩)) (.pointer (some ⟨c, d + o, none⟩))
  | slnil (n c : Nat) : VRel e (.slice none n c) (.slice none n c)
  | sl {b c d o n cap cap' : Nat} : e.loc b = some (c, d) → cap ≤ cap' → (cap' = cap ∨ e.es b = 0 ∨ d + o + cap' * e.es b ≤ e.sz c) → VRel e (.slice (some ⟨b, o, none⟩) n cap) (.slice (some ⟨c, d + o, none⟩) n cap')
  | slend {a : Addr} (a' : Addr) : (a = zaddr ∨ ∃ x, e.loc a.block = some x) → VRel e (.slice (some a) 0 0) (.slice (some a') 0 0)
  | mapnil : VRel e (.map none) (.map none)
  | map {r c : Nat} : e.loc r = some (c, 0) → VRel e (.map (some r)) (.map (some c))
  | func {f f' : Fn} {a a' b b' : Array Value} : FnRel e f f' → a.size = a'.size → (∀ (i : Nat) (x y : Value), a[i]? = some x → a'[i]? = some y → VRel e x y) → b.size = b'.size →
      (∀ (i : Nat) (x y : Value), b[i]? = some x → b'[i]? = some y → VRel e x y) → VRel e (.func f a b) (.func f' a' b')
  | nilFunc : VRel e .nilFunc .nilFunc
  | iface (t : TypeId) {v v' : Value} : VRel e v v' → VRel e (.iface t v) (.iface t v')
  | nilIface : VRel e .nilIface .nilIface
  | agg {a a' : Array Value} : a.size = a'.size → (∀ (i : Nat) (x y : Value), a[i]? = some x → a'[i]? = some y → VRel e x y) → VRel e (.agg a) (.agg a')
  | tuple {a a' : Array Value} : a.size = a'.size → (∀ (i : Nat) (x y : Value), a[i]? = some x → a'[i]? = some y → VRel e x y) → VRel e (.tuple a) (.tuple a')

/-- lists of values, one by one. -/
def VsRel (e : Env) (xs ys : List Value) : Prop := xs.length = ys.length ∧ ∀ (i : Nat) (x y : Value), xs[i]? = some x → ys[i]? = some y → VRel e x y

theorem FnRel.monoS {e e' : Env} (h : e.sub e') {f f' : Fn} (r : FnRel e f f') : FnRel e' f f' := by
  cases r with
  | func f => exact .func f
  | via t p f q => exact .via t p f q
  | yield hl => exact .yield (h.loc _ _ _ hl)

theorem FnRel.mono {e e' : Env} (h : e.le e') {f f' : Fn} (r : FnRel e f f') : FnRel e' f f' := r.monoS h.sub

theorem VRel.monoS {e e' : Env} (h : e.sub e') {v v' : Value} (r : VRel e v v') : VRel e' v v' := by
  induction r with
  | bool b => exact .bool b
  | int k n => exact .int k n
  | string s => exact .string s
  | nilptr => exact .nilptr
  | ptr hl => exact .ptr (h.loc _ _ _ hl)
  | slnil n c => exact .slnil n c
  | sl hl hc hs => exact .sl (h.loc _ _ _ hl) hc (by rw [h.es _ _ _ hl, h.sz _ _ _ hl]; exact hs)
  | slend a' ha => exact .slend a' (ha.imp id fun ⟨x, hx⟩ => ⟨_, h.loc _ x.1 x.2 hx⟩)
  | mapnil => exact .mapnil
  | map hl => exact .map (h.loc _ _ _ hl)
  | func hf ha _ hb _ iha ihb => exact .func (hf.monoS h) ha iha hb ihb
  | nilFunc => exact .nilFunc
  | iface t _ ih => exact .iface t ih
  | nilIface => exact .nilIface
  | agg ha _ iha => exact .agg ha iha
  | tuple ha _ iha => exact .tuple ha iha

theorem VRel.mono {e e' : Env} (h : e.le e') {v v' : Value} (r : VRel e v v') : VRel e' v v' := r.monoS h.sub

theorem VsRel.monoS {e e' : Env} (h : e.sub e') {xs ys : List Value} (r : VsRel e xs ys) : VsRel e' xs ys :=
  ⟨r.1, fun i x y hx hy => (r.2 i x y hx hy).monoS h⟩

theorem VsRel.mono {e e' : Env} (h : e.le e') {xs ys : List Value} (r : VsRel e xs ys) : VsRel e' xs ys := r.monoS h.sub

section
variable {e : Env} {xs ys us vs : List Value} {x y : Value}
theorem VsRel.nil : VsRel e [] [] := ⟨rfl, fun i x y h => by simp at h⟩
theorem VsRel.cons (h : VRel e x y) (r : VsRel e xs ys) : VsRel e (x :: xs) (y :: ys) :=
  ⟨by simp [r.1], fun i u v hu hv => by
    cases i with
    | zero => simp at hu hv; subst hu; subst hv; exact h
    | succ i => simp at hu hv; exact r.2 i u v hu hv⟩
theorem VsRel.head (r : VsRel e (x :: xs) (y :: ys)) : VRel e x y := r.2 0 x y rfl rfl
theorem VsRel.tail (r : VsRel e (x :: xs) (y :: ys)) : VsRel e xs ys := ⟨by simpa using r.1, fun i u v hu hv => r.2 (i + 1) u v hu hv⟩
theorem VsRel.nil_left (r : VsRel e [] ys) : ys = [] := List.eq_nil_of_length_eq_zero r.1.symm
theorem VsRel.cons_left (r : VsRel e (x :: xs) ys) : ∃ y ys', ys = y :: ys' ∧ VRel e x y ∧ VsRel e xs ys' := by
  cases ys with
  | nil => simp [VsRel] at r
  | cons y ys' => exact ⟨y, ys', rfl, r.head, r.tail⟩
theorem VsRel.append (r : VsRel e xs ys) (s : VsRel e us vs) : VsRel e (xs ++ us) (ys ++ vs) := by
  refine ⟨by simp [r.1, s.1], fun i u v hu hv => ?_⟩
  by_cases h : i < xs.length
  · rw [List.getElem?_append_left h] at hu
    rw [List.getElem?_append_left (by rw [← r.1]; exact h)] at hv
    exact r.2 i u v hu hv
  · rw [List.getElem?_append_right (by omega)] at hu
    rw [List.getElem?_append_right (by rw [← r.1]; omega), ← r.1] at hv
    exact s.2 _ u v hu hv
theorem VsRel.drop (r : VsRel e xs ys) (n : Nat) : VsRel e (xs.drop n) (ys.drop n) :=
  ⟨by simp [r.1], fun i u v hu hv => r.2 (n + i) u v (by simpa using hu) (by simpa using hv)⟩
theorem VsRel.take (r : VsRel e xs ys) (n : Nat) : VsRel e (xs.take n) (ys.take n) := by
  refine ⟨by simp [r.1], fun i u v hu hv => ?_⟩
  rw [List.getElem?_take] at hu hv
  by_cases h : i < n
  · rw [if_pos h] at hu hv; exact r.2 i u v hu hv
  · rw [if_neg h] at hu; cases hu
theorem VsRel.get (r : VsRel e xs ys) {i : Nat} (h : xs[i]? = some x) : ∃ y, ys[i]? = some y ∧ VRel e x y := by
  have hi : i < ys.length := by
    rw [← r.1]
    rcases Nat.lt_or_ge i xs.length with hlt | hge
    · exact hlt
    · rw [List.getElem?_eq_none hge] at h; cases h
  exact ⟨ys[i], List.getElem?_eq_getElem hi, r.2 i x _ h (List.getElem?_eq_getElem hi)⟩
theorem VsRel.one (h : VRel e x y) : VsRel e [x] [y] := VsRel.cons h VsRel.nil
theorem VsRel.replicate (h : VRel e x y) (n : Nat) : VsRel e (List.replicate n x) (List.replicate n y) := by
  induction n with
  | zero => exact VsRel.nil
  | succ n ih => exact VsRel.cons h ih
theorem VsRel.map_ (f : Operand → Value) (g : Operand → Value) : ∀ (l : List Operand), (∀ x ∈ l, VRel e (f x) (g x)) → VsRel e (l.map f) (l.map g)
  | [], _ => VsRel.nil
  | a :: l, h => VsRel.cons (h a (by simp)) (VsRel.map_ f g l fun x hx => h x (by simp [hx]))
end

theorem vsRel_arr {e : Env} {a a' : Array Value} : VsRel e a.toList a'.toList ↔ (a.size = a'.size ∧ ∀ (i : Nat) (x y : Value), a[i]? = some x → a'[i]? = some y → VRel e x y) := by
  simp [VsRel]

theorem VRel.agg' {e : Env} {a a' : Array Value} (h : VsRel e a.toList a'.toList) : VRel e (.agg a) (.agg a') := .agg (vsRel_arr.1 h).1 (vsRel_arr.1 h).2
theorem VRel.agg_list {e : Env} {xs ys : List Value} (h : VsRel e xs ys) : VRel e (.agg xs.toArray) (.agg ys.toArray) := .agg' (by simpa using h)
theorem VRel.tuple' {e : Env} {a a' : Array Value} (h : VsRel e a.toList a'.toList) : VRel e (.tuple a) (.tuple a') := .tuple (vsRel_arr.1 h).1 (vsRel_arr.1 h).2

theorem VRel.agg_inv {e : Env} {a : Array Value} {v : Value} (h : VRel e (.agg a) v) : ∃ a', v = .agg a' ∧ VsRel e a.toList a'.toList := by
  cases h with
  | agg ha hi => exact ⟨_, rfl, vsRel_arr.2 ⟨ha, hi⟩⟩
theorem VRel.tuple_inv {e : Env} {a : Array Value} {v : Value} (h : VRel e (.tuple a) v) : ∃ a', v = .tuple a' ∧ VsRel e a.toList a'.toList := by
  cases h with
  | tuple ha hi => exact ⟨_, rfl, vsRel_arr.2 ⟨ha, hi⟩⟩

theorem VRel.cells {e : Env} {v v' : Value} (h : VRel e v v') : VsRel e v.cells.toList v'.cells.toList := by
  cases h with
  | agg ha hi => exact vsRel_arr.2 ⟨ha, hi⟩
  | tuple ha hi => exact VsRel.one (.tuple ha hi)
  | bool b => exact VsRel.one (.bool b)
  | int k n => exact VsRel.one (.int k n)
  | string s => exact VsRel.one (.string s)
  | nilptr => exact VsRel.one .nilptr
  | ptr hl => exact VsRel.one (.ptr hl)
  | slnil n c => exact VsRel.one (.slnil n c)
  | sl hl hc hs => exact VsRel.one (.sl hl hc hs)
  | slend a' ha => exact VsRel.one (.slend a' ha)
  | mapnil => exact VsRel.one .mapnil
  | map hl => exact VsRel.one (.map hl)
  | func hf ha hA hb hB => exact VsRel.one (.func hf ha hA hb hB)
  | nilFunc => exact VsRel.one .nilFunc
  | iface t h => exact VsRel.one (.iface t h)
  | nilIface => exact VsRel.one .nilIface

theorem VRel.plain {e : Env} {v v' : Value} (h : VRel e v v') : plainCell v' = plainCell v := by cases h <;> rfl

theorem VsRel.plain {e : Env} : ∀ {xs ys : List Value}, VsRel e xs ys → xs.all plainCell = true → ys.all plainCell = true
  | [], ys, r, _ => by rw [r.nil_left]; rfl
  | x :: xs, ys, r, h => by
    obtain ⟨y, ys', rfl, hy, hr⟩ := r.cons_left
    simp only [List.all_cons, Bool.and_eq_true] at h ⊢
    exact ⟨by rw [hy.plain]; exact h.1, hr.plain h.2⟩
end Go.AM

namespace Go.AM
open Go

/-! ## the relation of memories -/
def EsRel (e : Env) (es es' : List MapEntry) : Prop :=
  es.length = es'.length ∧ ∀ (i : Nat) (x y : MapEntry), es[i]? = some x → es'[i]? = some y → VRel e x.key y.key ∧ VRel e x.val y.val ∧ x.born = y.born

def TmpsRel (e : Env) (t : PT Value) (n : Nat) (a : Array Value) : Prop :=
  a.size = n ∧ ∀ i, VRel e ((t.get i).getD undef) (a.getD i undef)

inductive TgRel (e : Env) : Target → Target → Prop where
  | fn {f f' : Fn} {c c' : Array Value} : FnRel e f f' → VsRel e c.toList c'.toList → TgRel e (.fn f c) (.fn f' c')
  | collected {r r' : Nat} : e.loc r = some (r', 0) → TgRel e (.collected r) (.collected r')

def DRel (e : Env) (d d' : Deferred) : Prop := TgRel e d.target d'.target ∧ VsRel e d.args.toList d'.args.toList

def DsRel (e : Env) (ds ds' : List Deferred) : Prop :=
  ds.length = ds'.length ∧ ∀ (i : Nat) (x y : Deferred), ds[i]? = some x → ds'[i]? = some y → DRel e x y

def AObj.isRow : AObj → Bool
  | .row .. => true
  | _ => false

def MRel (e : Env) : Option Nat → Option Nat → Prop
  | none, none => True
  | some r, some r' => e.loc r = some (r', 0)
  | _, _ => False

def ObjRel (e : Env) : AObj → Obj → Prop
  | .map es clock, .map es' clock' => clock = clock' ∧ EsRel e es es'.toList
  | .loop st pend fn tmps n params assign body defers, .loop l =>
    l.state = st ∧ l.pending = pend ∧ l.fn = fn ∧ n < 1000000 ∧ TmpsRel e tmps n l.tmps ∧ l.params.toList = params ∧ l.assign = assign ∧ l.body = body ∧ e.loc defers = some (l.defers, 0)
  | .deferred none, .deferred none => True
  | .deferred (some ds), .deferred (some ds') => DsRel e ds ds'
  | .strIter s p, .stringIter s' p' => s = s' ∧ p = p'
  | .mapIter m since seen st, .mapIter m' since' seen' st' => MRel e m m' ∧ since = since' ∧ seen = seen'.toList ∧ st = st'
  | _, _ => False

theorem undef_rel (e : Env) : VRel e undef undef := .tuple rfl (fun i x y h => by simp at h)

theorem EsRel.monoS {e e' : Env} (h : e.sub e') {xs ys : List MapEntry} (r : EsRel e xs ys) : EsRel e' xs ys :=
  ⟨r.1, fun i x y hx hy => let ⟨a, b, c⟩ := r.2 i x y hx hy; ⟨a.monoS h, b.monoS h, c⟩⟩
theorem EsRel.mono {e e' : Env} (h : e.le e') {xs ys : List MapEntry} (r : EsRel e xs ys) : EsRel e' xs ys := r.monoS h.sub
theorem TmpsRel.monoS {e e' : Env} (h : e.sub e') {t : PT Value} {n : Nat} {a : Array Value} (r : TmpsRel e t n a) : TmpsRel e' t n a :=
  ⟨r.1, fun i => (r.2 i).monoS h⟩
theorem TmpsRel.mono {e e' : Env} (h : e.le e') {t : PT Value} {n : Nat} {a : Array Value} (r : TmpsRel e t n a) : TmpsRel e' t n a := r.monoS h.sub
theorem TgRel.monoS {e e' : Env} (h : e.sub e') {t t' : Target} (r : TgRel e t t') : TgRel e' t t' := by
  cases r with
  | fn hf hc => exact .fn (hf.monoS h) (hc.monoS h)
  | collected hl => exact .collected (h.loc _ _ _ hl)
theorem TgRel.mono {e e' : Env} (h : e.le e') {t t' : Target} (r : TgRel e t t') : TgRel e' t t' := r.monoS h.sub
theorem DRel.monoS {e e' : Env} (h : e.sub e') {d d' : Deferred} (r : DRel e d d') : DRel e' d d' := ⟨r.1.monoS h, r.2.monoS h⟩
theorem DRel.mono {e e' : Env} (h : e.le e') {d d' : Deferred} (r : DRel e d d') : DRel e' d d' := r.monoS h.sub
theorem DsRel.monoS {e e' : Env} (h : e.sub e') {xs ys : List Deferred} (r : DsRel e xs ys) : DsRel e' xs ys :=
  ⟨r.1, fun i x y hx hy => (r.2 i x y hx hy).monoS h⟩
theorem DsRel.mono {e e' : Env} (h : e.le e') {xs ys : List Deferred} (r : DsRel e xs ys) : DsRel e' xs ys := r.monoS h.sub
theorem MRel.monoS {e e' : Env} (h : e.sub e') {m m' : Option Nat} (r : MRel e m m') : MRel e' m m' := by
  cases m <;> cases m' <;> simp only [MRel] at r ⊢
  exact h.loc _ _ _ r
theorem MRel.mono {e e' : Env} (h : e.le e') {m m' : Option Nat} (r : MRel e m m') : MRel e' m m' := r.monoS h.sub
theorem ObjRel.monoS {e e' : Env} (h : e.sub e') {o : AObj} {o' : Obj} (r : ObjRel e o o') : ObjRel e' o o' := by
  cases o with
  | row => cases o' <;> exact r.elim
  | map es cl => cases o' <;> simp only [ObjRel] at r ⊢; exact ⟨r.1, r.2.monoS h⟩
  | loop => cases o' <;> simp only [ObjRel] at r ⊢; obtain ⟨a, b, c, d, f, g, i, j, k⟩ := r; exact ⟨a, b, c, d, f.monoS h, g, i, j, h.loc _ _ _ k⟩
  | deferred ds =>
    cases o' with
    | deferred ds' => cases ds <;> cases ds' <;> simp only [ObjRel] at r ⊢; exact r.monoS h
    | _ => cases ds <;> exact r.elim
  | strIter => cases o' <;> simp only [ObjRel] at r ⊢; exact r
  | mapIter => cases o' <;> simp only [ObjRel] at r ⊢; exact ⟨r.1.monoS h, r.2⟩
theorem ObjRel.mono {e e' : Env} (h : e.le e') {o : AObj} {o' : Obj} (r : ObjRel e o o') : ObjRel e' o o' := r.monoS h.sub

structure RowOK (e : Env) (h : AH) (w : World) (b c d : Nat) (cs : List Value) (size es0 f dl : Nat) : Prop where
  fam : e.fam b = f
  delta : e.delta b = dl
  len : e.len b = size
  es : e.es b = es0
  length : cs.length = size
  fits : d + size ≤ e.sz c
  cells : ∃ arr t fz, w.heap[c]? = some (.cells arr t fz) ∧ arr.size = e.sz c ∧ Thawed arr fz ∧
    (h.readable b f = true → ∀ (i : Nat) (v : Value), cs[i]? = some v → ∃ v', arr[d + i]? = some v' ∧ VRel e v v')

structure HRel (e : Env) (B0 : Nat) (h : AH) (w : World) : Prop where
  row : ∀ {b c d : Nat} {cs : List Value} {size es fam delta : Nat}, e.loc b = some (c, d) → h.tree.get b = some (.row cs size es fam delta) → RowOK e h w b c d cs size es fam delta
  obj : ∀ {b c d : Nat} {o : AObj}, e.loc b = some (c, d) → h.tree.get b = some o → o.isRow = false → d = 0 ∧ (∃ o', w.heap[c]? = some o' ∧ ObjRel e o o') ∧ h.fams.get (e.fam b) = none
  sep : ∀ {b1 b2 c d1 d2 : Nat}, e.loc b1 = some (c, d1) → e.loc b2 = some (c, d2) → e.fam b1 = e.fam b2 ∧ d1 + e.delta b2 = d2 + e.delta b1
  one : ∀ {b1 b2 : Nat} {x1 x2 : Nat × Nat}, e.loc b1 = some x1 → e.loc b2 = some x2 → e.fam b1 = e.fam b2 → h.fams.get (e.fam b1) = none → b1 = b2
  old : ∀ {b : Nat} {x : Nat × Nat} {F : Fam}, e.loc b = some x → h.fams.get (e.fam b) = some F → b ≠ F.head → e.delta b + e.len b ≤ F.oldEnd
  new : ∀ {b : Nat}, h.next ≤ b → e.loc b = none
  famlt : ∀ {b : Nat} {x : Nat × Nat}, e.loc b = some x → e.fam b < h.next
  famnew : ∀ {f : Nat}, h.next ≤ f → h.fams.get f = none
  low : ∀ {b c d : Nat}, e.loc b = some (c, d) → c < w.heap.size ∧ (1000 ≤ b → B0 ≤ c)
  base : 1000 ≤ h.next ∧ h.next ≤ 1000000000 ∧ B0 ≤ w.heap.size
  nx : e.nx = h.next

section
variable {e : Env} {B0 : Nat} {h : AH} {w : World}

theorem HRel.lt (H : HRel e B0 h w) {b : Nat} {x : Nat × Nat} (hl : e.loc b = some x) : b < h.next := by
  rcases Nat.lt_or_ge b h.next with hlt | hge
  · exact hlt
  · rw [H.new hge] at hl; cases hl

theorem HRel.far (H : HRel e B0 h w) {b : Nat} {x : Nat × Nat} (hl : e.loc b = some x) : b < far := by
  have := H.lt hl; have := H.base.2; unfold Go.AM.far; omega

theorem HRel.of_heap (H : HRel e B0 h w) {w' : World} (hw : w'.heap = w.heap) : HRel e B0 h w' := by
  refine ⟨fun hl hg => ?_, fun hl hg ho => ?_, H.sep, H.one, H.old, H.new, H.famlt, H.famnew, fun hl => by rw [hw]; exact H.low hl, by rw [hw]; exact H.base, H.nx⟩
  · obtain ⟨a1, a2, a3, a4, a5, a6, a7⟩ := H.row hl hg
    exact ⟨a1, a2, a3, a4, a5, a6, by rw [hw]; exact a7⟩
  · rw [hw]; exact H.obj hl hg ho

theorem HRel.drew (H : HRel e B0 h w) : HRel e B0 h { w with drawn := w.drawn + 1 } := H.of_heap rfl

/-- what is read of a row. -/
theorem HRel.cellAt (H : HRel e B0 h w) {b o c d : Nat} {v : Value} (hl : e.loc b = some (c, d)) (hc : h.cellAt b o = some v) :
    ∃ v', w.cell? ⟨c, d + o, none⟩ = some v' ∧ VRel e v v' := by
  unfold AH.cellAt at hc
  split at hc
  · rename_i cs size es fam delta hg
    have R := H.row hl hg
    obtain ⟨arr, t, fz, hh, _, _, hcell⟩ := R.cells
    cases hr : h.readable b fam with
    | false => rw [hr] at hc; cases hc
    | true =>
      rw [hr] at hc
      obtain ⟨v', hv', hV⟩ := hcell hr o v hc
      exact ⟨v', by rw [cell_row hh]; exact hv', hV⟩
  · cases hc

theorem HRel.cellsAt (H : HRel e B0 h w) {b o c d n : Nat} {cs : List Value} (hl : e.loc b = some (c, d)) (hc : h.cellsAt b o n = some cs) :
    ∃ cs', VsRel e cs cs' ∧ cs'.length = n ∧ ∀ (j : Nat) (v : Value), cs'[j]? = some v → w.cell? ((⟨c, d + o, none⟩ : Addr).add j) = some v := by
  unfold AH.cellsAt at hc
  split at hc
  · rename_i all size es fam delta hg
    have R := H.row hl hg
    obtain ⟨arr, t, fz, hh, _, _, hcell⟩ := R.cells
    cases hr : h.readable b fam with
    | false => rw [hr] at hc; cases hc
    | true =>
      rw [hr, nble] at hc
      by_cases hb : o + n ≤ size
      · simp only [hb, decide_true, cond_true, Option.some.injEq] at hc
        subst hc
        have hlen := R.length
        have hget : ∀ j, j < n → ∃ v', arr[d + o + j]? = some v' ∧ ∀ x, all[o + j]? = some x → VRel e x v' := by
          intro j hj
          have hx : all[o + j]? = some (all[o + j]'(by omega)) := List.getElem?_eq_getElem (by omega)
          obtain ⟨v', hv', hV⟩ := hcell hr _ _ hx
          exact ⟨v', by rw [Nat.add_assoc]; exact hv', fun x hx' => by rw [hx] at hx'; cases hx'; exact hV⟩
        refine ⟨(List.range n).map fun j => arr.getD (d + o + j) undef, ⟨?_, ?_⟩, by simp, ?_⟩
        · simp; omega
        · intro i x y hx hy
          rw [List.getElem?_take] at hx
          by_cases hi : i < n
          · rw [if_pos hi, List.getElem?_drop] at hx
            obtain ⟨v', hv', hV⟩ := hget i hi
            simp only [List.getElem?_map, List.getElem?_range hi, Option.map_some, Option.some.injEq] at hy
            rw [← hy, Array.getD_eq_getD_getElem?, hv']
            exact hV x hx
          · rw [if_neg hi] at hx; cases hx
        · intro j v hv
          by_cases hj : j < n
          · obtain ⟨v', hv', _⟩ := hget j hj
            simp only [List.getElem?_map, List.getElem?_range hj, Option.map_some, Option.some.injEq] at hv
            rw [Addr.add_lit, cell_row hh, ← hv, Array.getD_eq_getD_getElem?, hv']
            rfl
          · rw [List.getElem?_eq_none (by simp; omega)] at hv; cases hv
      · simp only [hb, decide_false, cond_false] at hc; cases hc
  · cases hc

/-- more of the places is known: nothing that was known turns. -/
def Env.ext (e : Env) (b c d fam delta len es sz : Nat) : Env :=
  { loc := fun x => if x = b then some (c, d) else e.loc x
    sz := fun x => if x = c then sz else e.sz x
    fam := fun x => if x = b then fam else e.fam x
    delta := fun x => if x = b then delta else e.delta x
    len := fun x => if x = b then len else e.len x
    es := fun x => if x = b then es else e.es x
    nx := e.nx + 1 }

theorem Env.ext_le {e : Env} {b c d fam delta len es sz : Nat} (hb : e.loc b = none) (hc : ∀ b' d', e.loc b' = some (c, d') → sz = e.sz c) (hn : e.nx ≤ b) (hf : e.nx ≤ fam ∨ ∃ b0 x0, e.loc b0 = some x0 ∧ fam = e.fam b0) : e.le (e.ext b c d fam delta len es sz) := by
  have hne : ∀ x y z, e.loc x = some (y, z) → x ≠ b := fun x y z hx hxb => by rw [hxb, hb] at hx; cases hx
  refine ⟨⟨fun x y z hx => ?_, fun x y z hx => ?_, fun x y z hx => ?_, fun x y z hx => ?_, fun x y z hx => ?_, fun x y z hx => ?_⟩, Nat.le_succ _, fun x y hx => ?_⟩ <;> simp only [Env.ext] at *
  · rw [if_neg (hne _ _ _ hx)]; exact hx
  · by_cases h : y = c
    · subst h; rw [if_pos rfl, hc _ _ hx]
    · rw [if_neg h]
  · rw [if_neg (hne _ _ _ hx)]
  · rw [if_neg (hne _ _ _ hx)]
  · rw [if_neg (hne _ _ _ hx)]
  · rw [if_neg (hne _ _ _ hx)]
  · by_cases hxb : x = b
    · subst hxb
      rw [if_pos rfl]
      exact .inr ⟨hn, hf⟩
    · rw [if_neg hxb] at hx; exact .inl hx

theorem AH.readable_eq {h h' : AH} (hf : h'.fams = h.fams) (b f : Nat) : h'.readable b f = h.readable b f := by
  unfold AH.readable; rw [hf]

/-- a row (or an object) that is new on both sides. -/
theorem HRel.grow (H : HRel e B0 h w) (hn : h.next < 1000000000) (o' : Obj) (fam delta len es sz : Nat) (hfam : fam = h.next) (o : AObj) :
    ∀ e', e' = e.ext h.next w.heap.size 0 fam delta len es sz →
    (∀ cs size es' fam' delta', o = .row cs size es' fam' delta' → fam' = fam ∧ delta' = delta ∧ size = len ∧ es' = es ∧ cs.length = size ∧ size ≤ sz ∧
      ∃ arr t fz, o' = .cells arr t fz ∧ arr.size = sz ∧ Thawed arr fz ∧ ∀ (i : Nat) (v : Value), cs[i]? = some v → ∃ v', arr[i]? = some v' ∧ VRel e' v v') →
    (o.isRow = false → ObjRel e' o o') →
    e.le e' ∧ HRel e' B0 { tree := PT.set 64 h.tree h.next o, fams := h.fams, next := h.next + 1 } { w with heap := w.heap.push o' } := by
  intro e' he' hrow hobj
  have hle : e.le e' := by
    rw [he']
    exact Env.ext_le (H.new (Nat.le_refl _)) (fun b' d' hb' => by have := (H.low hb').1; omega) (by rw [H.nx]; exact Nat.le_refl _) (.inl (by rw [H.nx, hfam]; exact Nat.le_refl _))
  have hfar : h.next < Go.AM.far := by unfold Go.AM.far; omega
  have hloc : ∀ b x, e'.loc b = some x → (b = h.next ∧ x = (w.heap.size, 0)) ∨ (b ≠ h.next ∧ e.loc b = some x) := by
    intro b x hx
    rw [he'] at hx
    simp only [Env.ext] at hx
    by_cases hb : b = h.next
    · rw [if_pos hb] at hx; exact .inl ⟨hb, (Option.some.inj hx).symm⟩
    · rw [if_neg hb] at hx; exact .inr ⟨hb, hx⟩
  have hfm : ∀ b, b ≠ h.next → e'.fam b = e.fam b := fun b hb => by rw [he']; simp [Env.ext, hb]
  have hdl : ∀ b, b ≠ h.next → e'.delta b = e.delta b := fun b hb => by rw [he']; simp [Env.ext, hb]
  have hln : ∀ b, b ≠ h.next → e'.len b = e.len b := fun b hb => by rw [he']; simp [Env.ext, hb]
  have hfm0 : e'.fam h.next = h.next := by rw [he']; simp [Env.ext, hfam]
  have hheap : ∀ c, c < w.heap.size → (w.heap.push o')[c]? = w.heap[c]? := fun c hc => by rw [Array.getElem?_push, if_neg (by omega)]
  have hheap0 : (w.heap.push o')[w.heap.size]? = some o' := by rw [Array.getElem?_push, if_pos rfl]
  have hget : ∀ b, (PT.set 64 h.tree h.next o).get b = if b = h.next then some o else h.tree.get b := fun b => PT.get_set _ _ _ _ hfar
  refine ⟨hle, ⟨?_, ?_, ?_, ?_, ?_, ?_, ?_, ?_, ?_, ?_, by rw [he']; simp [Env.ext, H.nx]⟩⟩
  · intro b c d cs size es' fam' delta' hl hg
    simp only [] at hg
    rw [hget] at hg
    rcases hloc _ _ hl with ⟨hb, hx⟩ | ⟨hb, hl0⟩
    · rw [if_pos hb] at hg
      cases hx
      obtain ⟨h1, h2, h3, h4, h5, h6, arr, t, fz, h7, h8, h9, h10⟩ := hrow _ _ _ _ _ (Option.some.inj hg)
      subst hb
      refine ⟨by rw [hfm0, h1, hfam], by rw [he']; simp [Env.ext, h2], by rw [he']; simp [Env.ext, h3], by rw [he']; simp [Env.ext, h4], h5, ?_, arr, t, fz, ?_, ?_, h9, ?_⟩
      · rw [he']; simp only [Env.ext, if_true]; omega
      · rw [← h7]; exact hheap0
      · rw [he']; simp only [Env.ext, if_true]; exact h8
      · intro _ i v hv
        obtain ⟨v', hv', hV⟩ := h10 i v hv
        exact ⟨v', by simpa using hv', hV⟩
    · rw [if_neg hb] at hg
      have R := H.row hl0 hg
      obtain ⟨arr, t, fz, hh, hs, hth, hcell⟩ := R.cells
      refine ⟨by rw [hle.fam _ _ _ hl0]; exact R.fam, by rw [hle.delta _ _ _ hl0]; exact R.delta, by rw [hle.len _ _ _ hl0]; exact R.len, by rw [hle.es _ _ _ hl0]; exact R.es, R.length, by rw [hle.sz _ _ _ hl0]; exact R.fits,
        arr, t, fz, ?_, by rw [hle.sz _ _ _ hl0]; exact hs, hth, fun hr i v hv => ?_⟩
      · simp only []; rw [hheap _ (H.low hl0).1]; exact hh
      · obtain ⟨v', hv', hV⟩ := hcell hr i v hv
        exact ⟨v', hv', hV.mono hle⟩
  · intro b c d o2 hl hg ho2
    simp only [] at hg ⊢
    rw [hget] at hg
    rcases hloc _ _ hl with ⟨hb, hx⟩ | ⟨hb, hl0⟩
    · rw [if_pos hb] at hg
      cases hx
      cases Option.some.inj hg
      subst hb
      exact ⟨rfl, ⟨o', hheap0, hobj ho2⟩, by rw [hfm0]; exact H.famnew (Nat.le_refl _)⟩
    · rw [if_neg hb] at hg
      obtain ⟨h1, ⟨o3, h2, h3⟩, h4⟩ := H.obj hl0 hg ho2
      exact ⟨h1, ⟨o3, by rw [hheap _ (H.low hl0).1]; exact h2, h3.mono hle⟩, by rw [hfm _ hb]; exact h4⟩
  · intro b1 b2 c d1 d2 h1 h2
    rcases hloc _ _ h1 with ⟨hb1, hx1⟩ | ⟨hb1, hl1⟩ <;> rcases hloc _ _ h2 with ⟨hb2, hx2⟩ | ⟨hb2, hl2⟩
    · cases hx1; cases hx2; subst hb1; subst hb2; exact ⟨rfl, rfl⟩
    · cases hx1; have := (H.low hl2).1; omega
    · cases hx2; have := (H.low hl1).1; omega
    · rw [hfm _ hb1, hfm _ hb2, hdl _ hb1, hdl _ hb2]; exact H.sep hl1 hl2
  · intro b1 b2 x1 x2 h1 h2 hf hnone
    rcases hloc _ _ h1 with ⟨hb1, hx1⟩ | ⟨hb1, hl1⟩ <;> rcases hloc _ _ h2 with ⟨hb2, hx2⟩ | ⟨hb2, hl2⟩
    · rw [hb1, hb2]
    · rw [hb1, hfm0, hfm _ hb2] at hf; have := H.famlt hl2; omega
    · rw [hb2, hfm0, hfm _ hb1] at hf; have := H.famlt hl1; omega
    · rw [hfm _ hb1, hfm _ hb2] at hf; rw [hfm _ hb1] at hnone; exact H.one hl1 hl2 hf hnone
  · intro b x F hl hF hne
    rcases hloc _ _ hl with ⟨hb, hx⟩ | ⟨hb, hl0⟩
    · rw [hb, hfm0] at hF; rw [H.famnew (Nat.le_refl _)] at hF; cases hF
    · rw [hfm _ hb] at hF; rw [hdl _ hb, hln _ hb]; exact H.old hl0 hF hne
  · intro b hb
    have hb : h.next + 1 ≤ b := hb
    rw [he']; simp only [Env.ext]; rw [if_neg (by omega)]; exact H.new (by omega)
  · intro b x hl
    show e'.fam b < h.next + 1
    rcases hloc _ _ hl with ⟨hb, hx⟩ | ⟨hb, hl0⟩
    · rw [hb, hfm0]; omega
    · rw [hfm _ hb]; have := H.famlt hl0; omega
  · intro f hf
    have hf : h.next + 1 ≤ f := hf
    exact H.famnew (by omega)
  · intro b c d hl
    simp only [Array.size_push]
    rcases hloc _ _ hl with ⟨hb, hx⟩ | ⟨hb, hl0⟩
    · cases hx; have := H.base.2.2; exact ⟨by omega, fun _ => by omega⟩
    · have := H.low hl0; exact ⟨by omega, this.2⟩
  · simp only [Array.size_push]
    have := H.base; omega
end
end Go.AM

namespace Go.AM
open Go

section
variable {e : Env} {B0 : Nat} {h : AH} {w : World}

theorem HRel.not_obj (H : HRel e B0 h w) {b b2 : Nat} {x x2 : Nat × Nat} {cs : List Value} {size es fam delta : Nat} {o : AObj} (hl : e.loc b = some x) (hg : h.tree.get b = some (.row cs size es fam delta))
    (h2 : e.loc b2 = some x2) (hg2 : h.tree.get b2 = some o) (ho : o.isRow = false) : e.fam b2 ≠ e.fam b := by
  intro hf
  have hn := (H.obj (c := x2.1) (d := x2.2) h2 hg2 ho).2.2
  have := H.one h2 hl hf hn
  subst this
  rw [hg] at hg2; cases hg2; cases ho

/-- a store into a row. -/
theorem HRel.store (H : HRel e B0 h w) {b c d off : Nat} {vs vs' : List Value} {h' : AH} (hl : e.loc b = some (c, d)) (hs : h.storeAt b off vs = some h') (hv : VsRel e vs vs') :
    ∃ arr t fz, w.heap[c]? = some (.cells arr t fz) ∧ d + off + vs'.length ≤ arr.size ∧ Thawed arr fz ∧ vs'.all plainCell = true ∧ B0 ≤ c ∧ h'.next = h.next ∧
      HRel e B0 h' (putRow w c (writeAt arr (d + off) vs') t fz) := by
  unfold AH.storeAt at hs
  split at hs
  case h_2 => cases hs
  rename_i cs size es fam delta hg
  have R := H.row hl hg
  obtain ⟨arr, t, fz, hh, hsz, hth, hcell⟩ := R.cells
  have hfits := R.fits
  cases hc1 : (Nat.ble 1000 b && Nat.ble (off + vs.length) size && vs.all plainCell) with
  | false => rw [hc1] at hs; cases hs
  | true =>
    rw [hc1, cond_true] at hs
    simp only [nble, Bool.and_eq_true, decide_eq_true_eq] at hc1
    obtain ⟨⟨hb1, hb2⟩, hb3⟩ := hc1
    have hlen : vs'.length = vs.length := hv.1.symm
    -- the shape of what is behind it
    have hsh : ∃ fams', h' = { tree := PT.set 64 h.tree b (.row (over cs off vs) size es fam delta), fams := fams', next := h.next } ∧
        (∀ f, fams'.get f = none ↔ h.fams.get f = none) ∧
        (∀ f F', fams'.get f = some F' → ∃ F, h.fams.get f = some F ∧ F'.head = F.head ∧ F'.oldEnd = F.oldEnd ∧ (F'.oldAlive = true → F.oldAlive = true) ∧
          (f = fam → F.head = b ∧ (F'.oldAlive = true → F.oldEnd ≤ delta + off))) := by
      split at hs
      · rename_i hfn
        cases hs
        refine ⟨h.fams, rfl, fun _ => Iff.rfl, fun f F' hF => ⟨F', hF, rfl, rfl, id, fun hff => ?_⟩⟩
        rw [hff, hfn] at hF; cases hF
      · rename_i F hF
        rw [nbeq] at hs
        by_cases hhead : F.head = b
        · simp only [hhead, decide_true, cond_true, Option.some.injEq] at hs
          have hfl : fam < Go.AM.far := by
            have := H.famlt hl; rw [R.fam] at this; have := H.base.2; unfold Go.AM.far; omega
          cases hco : (F.oldAlive && !(Nat.ble F.oldEnd (delta + off))) with
          | false =>
            rw [hco, cond_false] at hs
            refine ⟨h.fams, hs.symm, fun _ => Iff.rfl, fun f F' hF' => ⟨F', hF', rfl, rfl, id, fun hff => ?_⟩⟩
            rw [hff, hF] at hF'; cases hF'
            refine ⟨hhead, fun ha => ?_⟩
            rw [ha] at hco
            simpa [nble] using hco
          | true =>
            rw [hco, cond_true] at hs
            have hg2 : ∀ G f, (PT.set 64 h.fams fam G).get f = if f = fam then some G else h.fams.get f := fun G f => PT.get_set _ _ _ _ hfl
            refine ⟨_, hs.symm, fun f => ?_, fun f F' hF' => ?_⟩
            · rw [hg2]
              by_cases hff : f = fam
              · rw [if_pos hff, hff, hF]; simp
              · rw [if_neg hff]
            · rw [hg2] at hF'
              by_cases hff : f = fam
              · rw [if_pos hff] at hF'; cases hF'
                exact ⟨F, by rw [hff]; exact hF, hhead.symm, rfl, (fun hx => by cases hx), (fun _ => ⟨hhead, (fun hx => by cases hx)⟩)⟩
              · rw [if_neg hff] at hF'
                exact ⟨F', hF', rfl, rfl, id, fun hx => absurd hx hff⟩
        · simp only [hhead, decide_false, cond_false] at hs; cases hs
    obtain ⟨fams', rfl, hnone, hsome⟩ := hsh
    have hbfar := H.far hl
    have hget : ∀ x, (PT.set 64 h.tree b (.row (over cs off vs) size es fam delta)).get x = if x = b then some (.row (over cs off vs) size es fam delta) else h.tree.get x := fun x => PT.get_set _ _ _ _ hbfar
    have hread : ∀ x f, AH.readable { tree := PT.set 64 h.tree b (.row (over cs off vs) size es fam delta), fams := fams', next := h.next } x f = true → h.readable x f = true := by
      intro x f hr
      unfold AH.readable at hr ⊢
      simp only [] at hr
      cases hF : h.fams.get f with
      | none => rfl
      | some F =>
        simp only []
        cases hF' : fams'.get f with
        | none => rw [(hnone f).1 hF'] at hF; cases hF
        | some F' =>
          rw [hF'] at hr
          obtain ⟨F2, h1, h2, h3, h4, _⟩ := hsome f F' hF'
          rw [hF] at h1; cases h1
          simp only [h2, nbeq] at hr ⊢
          by_cases hx : F.head = x
          · simp [hx]
          · simp only [hx, decide_false, cond_false] at hr ⊢; exact h4 hr
    refine ⟨arr, t, fz, hh, by omega, hth, hv.plain hb3, (H.low hl).2 hb1, rfl, ?_⟩
    have hheap : ∀ c2, (putRow w c (writeAt arr (d + off) vs') t fz).heap[c2]? = if c2 = c then some (.cells (writeAt arr (d + off) vs') t fz) else w.heap[c2]? := by
      intro c2
      rw [heap_putRow]
      have := lt_of_heap hh
      by_cases hc : c2 = c
      · rw [if_pos ⟨hc, this⟩, if_pos hc]
      · rw [if_neg (by omega), if_neg hc]
    refine ⟨?_, ?_, H.sep, ?_, ?_, H.new, H.famlt, ?_, ?_, ?_, H.nx⟩
    · intro b2 c2 d2 cs2 size2 es2 fam2 delta2 hl2 hg2
      simp only [] at hg2
      rw [hget] at hg2
      by_cases hb : b2 = b
      · subst hb
        rw [if_pos rfl] at hg2
        cases hg2
        rw [hl] at hl2; cases hl2
        refine ⟨R.fam, R.delta, R.len, R.es, by rw [length_over]; exact R.length, R.fits, writeAt arr (d + off) vs', t, fz, by rw [hheap, if_pos rfl], by rw [size_writeAt]; exact hsz, (by unfold Thawed at hth ⊢; rw [size_writeAt]; exact hth), ?_⟩
        intro hr i v hiv
        rw [getElem?_over] at hiv
        rw [getElem?_writeAt _ _ _ _ (by omega)]
        by_cases hin : off ≤ i ∧ i < off + vs.length ∧ i < cs.length
        · rw [if_pos hin] at hiv
          rw [if_pos (by omega)]
          obtain ⟨v', h1, h2⟩ := hv.get hiv
          exact ⟨v', by rw [show d + i - (d + off) = i - off by omega]; exact h1, h2⟩
        · rw [if_neg hin] at hiv
          have hil : i < cs.length := by
            rcases Nat.lt_or_ge i cs.length with hlt | hge
            · exact hlt
            · rw [List.getElem?_eq_none hge] at hiv; cases hiv
          rw [if_neg (by omega)]
          exact hcell (hread _ _ hr) i v hiv
      · rw [if_neg hb] at hg2
        have R2 := H.row hl2 hg2
        obtain ⟨arr2, t2, fz2, hh2, hsz2, hth2, hcell2⟩ := R2.cells
        refine ⟨R2.fam, R2.delta, R2.len, R2.es, R2.length, R2.fits, ?_⟩
        by_cases hc : c2 = c
        · subst hc
          rw [hh] at hh2; cases hh2
          refine ⟨writeAt arr (d + off) vs', t, fz, by rw [hheap, if_pos rfl], by rw [size_writeAt]; exact hsz, (by unfold Thawed at hth ⊢; rw [size_writeAt]; exact hth), ?_⟩
          intro hr i v hiv
          obtain ⟨v', h1, h2⟩ := hcell2 (hread _ _ hr) i v hiv
          refine ⟨v', ?_, h2⟩
          rw [getElem?_writeAt _ _ _ _ (by omega)]
          rw [if_neg ?_]
          · exact h1
          · -- the other row ends ahead of what is written
            obtain ⟨hfe, hde⟩ := H.sep hl hl2
            have hil : i < size2 := by
              rw [← R2.length]
              rcases Nat.lt_or_ge i cs2.length with hlt | hge
              · exact hlt
              · rw [List.getElem?_eq_none hge] at hiv; cases hiv
            have hff : fam2 = fam := by rw [← R2.fam, ← R.fam]; exact hfe.symm
            subst hff
            unfold AH.readable at hr
            simp only [] at hr
            cases hF' : fams'.get fam2 with
            | none =>
              have := H.one hl2 hl hfe.symm (by rw [R2.fam]; exact (hnone fam2).1 hF')
              exact absurd this hb
            | some F' =>
              rw [hF'] at hr
              obtain ⟨F, f1, f2, f3, f4, f5⟩ := hsome _ _ hF'
              obtain ⟨f6, f7⟩ := f5 rfl
              have hne : ¬ F'.head = b2 := by rw [f2, f6]; exact fun hx => hb hx.symm
              simp only [nbeq, hne, decide_false, cond_false] at hr
              have hold := H.old hl2 (F := F) (by rw [R2.fam]; exact f1) (by rw [f6]; exact hb)
              have := f7 hr
              rw [R2.delta, R.delta] at hde
              rw [R2.delta, R2.len] at hold
              omega
        · exact ⟨arr2, t2, fz2, by rw [hheap, if_neg hc]; exact hh2, hsz2, hth2, fun hr => hcell2 (hread _ _ hr)⟩
    · intro b2 c2 d2 o hl2 hg2 ho
      simp only [] at hg2 ⊢
      rw [hget] at hg2
      by_cases hb : b2 = b
      · rw [if_pos hb] at hg2; cases hg2; cases ho
      · rw [if_neg hb] at hg2
        obtain ⟨h1, ⟨o', h2, h3⟩, h4⟩ := H.obj hl2 hg2 ho
        refine ⟨h1, ⟨o', ?_, h3⟩, (hnone _).2 h4⟩
        rw [hheap]
        by_cases hc : c2 = c
        · subst hc
          exact absurd (H.sep hl hl2).1.symm (H.not_obj hl hg hl2 hg2 ho)
        · rw [if_neg hc]; exact h2
    · intro b1 b2 x1 x2 g1 g2 hf hn
      exact H.one g1 g2 hf ((hnone _).1 hn)
    · intro b2 x F' hl2 hF' hne
      obtain ⟨F, f1, f2, f3, _⟩ := hsome _ _ hF'
      rw [f3]
      exact H.old hl2 f1 (by rw [← f2]; exact hne)
    · intro f hf
      exact (hnone f).2 (H.famnew hf)
    · intro b2 c2 d2 hl2
      rw [size_putRow]; exact H.low hl2
    · rw [size_putRow]; exact H.base

/-- an object that is no row turns. -/
theorem HRel.setObj (H : HRel e B0 h w) {b c d : Nat} {o o2 : AObj} {o2' : Obj} (hl : e.loc b = some (c, d)) (hg : h.tree.get b = some o) (ho : o.isRow = false) (ho2 : o2.isRow = false)
    (hr : ObjRel e o2 o2') : HRel e B0 (h.putObj b o2) { w with heap := w.heap.setIfInBounds c o2' } := by
  obtain ⟨hd, ⟨o', hh, _⟩, hfn⟩ := H.obj hl hg ho
  have hbfar := H.far hl
  have hget : ∀ x, (PT.set 64 h.tree b o2).get x = if x = b then some o2 else h.tree.get x := fun x => PT.get_set _ _ _ _ hbfar
  have hother : ∀ {b2 c2 d2 : Nat}, b2 ≠ b → e.loc b2 = some (c2, d2) → c2 ≠ c := by
    intro b2 c2 d2 hne hl2 hc
    subst hc
    have := H.sep hl hl2
    exact hne (H.one hl hl2 this.1 hfn).symm
  have hheap : ∀ c2, c2 ≠ c → (w.heap.setIfInBounds c o2')[c2]? = w.heap[c2]? := fun c2 hc => Array.getElem?_setIfInBounds_ne (fun hx => hc hx.symm)
  unfold AH.putObj
  refine ⟨?_, ?_, H.sep, H.one, H.old, H.new, H.famlt, H.famnew, ?_, ?_, H.nx⟩
  · intro b2 c2 d2 cs2 size2 es2 fam2 delta2 hl2 hg2
    simp only [] at hg2
    rw [hget] at hg2
    by_cases hb : b2 = b
    · rw [if_pos hb] at hg2; cases hg2; cases ho2
    · rw [if_neg hb] at hg2
      have R2 := H.row hl2 hg2
      obtain ⟨arr2, t2, fz2, hh2, hsz2, hth2, hcell2⟩ := R2.cells
      exact ⟨R2.fam, R2.delta, R2.len, R2.es, R2.length, R2.fits, arr2, t2, fz2, by rw [hheap _ (hother hb hl2)]; exact hh2, hsz2, hth2, hcell2⟩
  · intro b2 c2 d2 o3 hl2 hg2 ho3
    simp only [] at hg2 ⊢
    rw [hget] at hg2
    by_cases hb : b2 = b
    · subst hb
      rw [if_pos rfl] at hg2; cases hg2
      rw [hl] at hl2; cases hl2
      refine ⟨hd, ⟨o2', ?_, hr⟩, hfn⟩
      rw [Array.getElem?_setIfInBounds, if_pos rfl, if_pos (lt_of_heap hh)]
    · rw [if_neg hb] at hg2
      obtain ⟨h1, ⟨o', h2, h3⟩, h4⟩ := H.obj hl2 hg2 ho3
      exact ⟨h1, ⟨o', by rw [hheap _ (hother hb hl2)]; exact h2, h3⟩, h4⟩
  · intro b2 c2 d2 hl2
    simp only [Array.size_setIfInBounds]; exact H.low hl2
  · simp only [Array.size_setIfInBounds]; exact H.base
end
end Go.AM

namespace Go.AM
open Go

section
variable {e : Env} {B0 : Nat} {h : AH} {w : World}

theorem AH.growFam_spec {fam b oldEnd start : Nat} {fams' : PT Fam} (hfar : fam < far) (hg : h.growFam b fam oldEnd start = some fams') :
    ∃ F', (∀ f, fams'.get f = if f = fam then some F' else h.fams.get f) ∧ F'.head = h.next ∧ oldEnd ≤ F'.oldEnd ∧ (F'.oldAlive = true → F'.oldEnd ≤ start) ∧
      (∀ F, h.fams.get fam = some F → F.head = b ∧ F.oldEnd ≤ F'.oldEnd ∧ (F'.oldAlive = true → F.oldAlive = true)) := by
  unfold AH.growFam at hg
  have hset : ∀ G f, (PT.set 64 h.fams fam G).get f = if f = fam then some G else h.fams.get f := fun G f => PT.get_set _ _ _ _ hfar
  split at hg
  · rename_i hn
    cases hg
    refine ⟨_, hset _, rfl, Nat.le_refl _, fun ha => by simpa [nble] using ha, fun F hF => ?_⟩
    rw [hn] at hF; cases hF
  · rename_i F hF
    rw [nbeq] at hg
    by_cases hh : F.head = b
    · simp only [hh, decide_true, cond_true, Option.some.injEq] at hg
      subst hg
      refine ⟨_, hset _, rfl, Nat.le_max_right _ _, fun ha => ?_, fun G hG => ?_⟩
      · simp only [Bool.and_eq_true, nble, decide_eq_true_eq] at ha
        exact ha.2
      · rw [hF] at hG; cases hG
        refine ⟨hh, Nat.le_max_left _ _, fun ha => ?_⟩
        simp only [Bool.and_eq_true] at ha
        exact ha.1
    · simp only [hh, decide_false, cond_false] at hg; cases hg

/-- a row grows: on the other side either in place or in a new block. -/
theorem HRel.growRow (H : HRel e B0 h w) {b c d off k total : Nat} {cs cells : List Value} {size es fam delta : Nat} {fams' : PT Fam} (hl : e.loc b = some (c, d)) (hg : h.tree.get b = some (.row cs size es fam delta))
    (hfam : h.growFam b fam (delta + size) (delta + off + k) = some fams') (hn : h.next < 1000000000)
    (c' d' sz' : Nat) (w' : World) (hsize : w.heap.size ≤ w'.heap.size) (hother : ∀ c2, c2 ≠ c' → c2 < w.heap.size → w'.heap[c2]? = w.heap[c2]?)
    (arr' : Array Value) (t' : TypeId) (fz' : Nat × Nat) (hnew : w'.heap[c']? = some (.cells arr' t' fz')) (hsz' : arr'.size = sz') (hth' : Thawed arr' fz')
    (hcells : ∀ (i : Nat) (v : Value), cells[i]? = some v → ∃ v', arr'[d' + i]? = some v' ∧ VRel e v v')
    (hsame : ∀ arr2 t2 fz2, w.heap[c']? = some (.cells arr2 t2 fz2) → arr'.size = arr2.size ∧ ∀ j, j < d' + k → arr'[j]? = arr2[j]?)
    (hsep : ∀ b2 d2, e.loc b2 = some (c', d2) → e.fam b2 = fam ∧ d' + e.delta b2 = d2 + (delta + off) ∧ sz' = e.sz c')
    (hlow : B0 ≤ c') (hfit : d' + total ≤ sz') (hlen : cells.length = total) :
    ∀ e', e' = e.ext h.next c' d' fam (delta + off) total es sz' →
    e.le e' ∧ HRel e' B0 { tree := PT.set 64 h.tree h.next (.row cells total es fam (delta + off)), fams := fams', next := h.next + 1 } w' := by
  intro e' he'
  have R := H.row hl hg
  have hfl : fam < h.next := by have := H.famlt hl; rwa [R.fam] at this
  have hffar : fam < Go.AM.far := by have := H.base.2; unfold Go.AM.far; omega
  have hnfar : h.next < Go.AM.far := by unfold Go.AM.far; omega
  obtain ⟨F', hF', hhead, hend, halive, hF⟩ := AH.growFam_spec hffar hfam
  have hle : e.le e' := by
    rw [he']
    exact Env.ext_le (H.new (Nat.le_refl _)) (fun b' d2 hb' => (hsep _ _ hb').2.2) (by rw [H.nx]; exact Nat.le_refl _) (.inr ⟨b, _, hl, R.fam.symm⟩)
  have hloc : ∀ b2 x, e'.loc b2 = some x → (b2 = h.next ∧ x = (c', d')) ∨ (b2 ≠ h.next ∧ e.loc b2 = some x) := by
    intro b2 x hx
    rw [he'] at hx
    simp only [Env.ext] at hx
    by_cases hb : b2 = h.next
    · rw [if_pos hb] at hx; exact .inl ⟨hb, (Option.some.inj hx).symm⟩
    · rw [if_neg hb] at hx; exact .inr ⟨hb, hx⟩
  have hfm : ∀ b2, b2 ≠ h.next → e'.fam b2 = e.fam b2 := fun b2 hb => by rw [he']; simp [Env.ext, hb]
  have hdl : ∀ b2, b2 ≠ h.next → e'.delta b2 = e.delta b2 := fun b2 hb => by rw [he']; simp [Env.ext, hb]
  have hln : ∀ b2, b2 ≠ h.next → e'.len b2 = e.len b2 := fun b2 hb => by rw [he']; simp [Env.ext, hb]
  have hfm0 : e'.fam h.next = fam := by rw [he']; simp [Env.ext]
  have hdl0 : e'.delta h.next = delta + off := by rw [he']; simp [Env.ext]
  have hget : ∀ x, (PT.set 64 h.tree h.next (.row cells total es fam (delta + off))).get x = if x = h.next then some (.row cells total es fam (delta + off)) else h.tree.get x := fun x => PT.get_set _ _ _ _ hnfar
  -- a member of the family ends ahead of its old end
  have hends : ∀ {b2 : Nat} {x : Nat × Nat}, e.loc b2 = some x → e.fam b2 = fam → e.delta b2 + e.len b2 ≤ F'.oldEnd := by
    intro b2 x hl2 hf2
    by_cases hb : b2 = b
    · subst hb; rw [R.delta, R.len]; exact hend
    · cases hFx : h.fams.get fam with
      | none => exact absurd (H.one hl2 hl (by rw [hf2, R.fam]) (by rw [hf2]; exact hFx)) hb
      | some F =>
        obtain ⟨f1, f2, _⟩ := hF F hFx
        have := H.old hl2 (F := F) (by rw [hf2]; exact hFx) (by rw [f1]; exact hb)
        omega
  -- what may be read behind it could be read ahead of it
  have hread : ∀ {b2 : Nat} {x : Nat × Nat} (f : Nat), e.loc b2 = some x → e.fam b2 = f →
      AH.readable { tree := PT.set 64 h.tree h.next (.row cells total es fam (delta + off)), fams := fams', next := h.next + 1 } b2 f = true → h.readable b2 f = true ∧ (f = fam → F'.oldAlive = true) := by
    intro b2 x f hl2 hf2 hr
    unfold AH.readable at hr ⊢
    simp only [hF'] at hr
    by_cases hff : f = fam
    · rw [if_pos hff] at hr
      have hne : ¬ F'.head = b2 := by rw [hhead]; exact fun hx => by have := H.lt hl2; omega
      simp only [nbeq, hne, decide_false, cond_false] at hr
      refine ⟨?_, fun _ => hr⟩
      rw [hff]
      cases hFx : h.fams.get fam with
      | none => rfl
      | some F =>
        obtain ⟨_, _, f3⟩ := hF F hFx
        simp only [f3 hr]
        cases Nat.beq F.head b2 <;> rfl
    · rw [if_neg hff] at hr
      exact ⟨hr, fun hx => absurd hx hff⟩
  refine ⟨hle, ⟨?_, ?_, ?_, ?_, ?_, ?_, ?_, ?_, ?_, ?_, by rw [he']; simp [Env.ext, H.nx]⟩⟩
  · intro b2 c2 d2 cs2 size2 es2 fam2 delta2 hl2 hg2
    simp only [] at hg2
    rw [hget] at hg2
    rcases hloc _ _ hl2 with ⟨hb, hx⟩ | ⟨hb, hl0⟩
    · rw [if_pos hb] at hg2
      cases hx; cases hg2
      subst hb
      refine ⟨hfm0, hdl0, by rw [he']; simp [Env.ext], by rw [he']; simp [Env.ext], hlen, by rw [he']; simp only [Env.ext, if_true]; exact hfit, arr', t', fz', hnew, by rw [he']; simp only [Env.ext, if_true]; exact hsz', hth', ?_⟩
      intro _ i v hv
      obtain ⟨v', h1, h2⟩ := hcells i v hv
      exact ⟨v', h1, h2.mono hle⟩
    · rw [if_neg hb] at hg2
      have R2 := H.row hl0 hg2
      obtain ⟨arr2, t2, fz2, hh2, hsz2, hth2, hcell2⟩ := R2.cells
      refine ⟨by rw [hfm _ hb]; exact R2.fam, by rw [hdl _ hb]; exact R2.delta, by rw [hln _ hb]; exact R2.len, by rw [hle.es _ _ _ hl0]; exact R2.es, R2.length, by rw [hle.sz _ _ _ hl0]; exact R2.fits, ?_⟩
      by_cases hc : c2 = c'
      · subst hc
        obtain ⟨s1, s2, s3⟩ := hsep _ _ hl0
        obtain ⟨q1, q2⟩ := hsame _ _ _ hh2
        refine ⟨arr', t', fz', hnew, by rw [hle.sz _ _ _ hl0, ← s3]; exact hsz', hth', fun hr i v hv => ?_⟩
        obtain ⟨r1, r2⟩ := hread fam2 hl0 R2.fam hr
        obtain ⟨v', h1, h2⟩ := hcell2 r1 i v hv
        refine ⟨v', ?_, h2.mono hle⟩
        rw [q2]
        · exact h1
        · have hal := halive (r2 (by rw [← R2.fam]; exact s1))
          have hen := hends hl0 s1
          have hil : i < size2 := by
            rw [← R2.length]
            rcases Nat.lt_or_ge i cs2.length with hlt | hge
            · exact hlt
            · rw [List.getElem?_eq_none hge] at hv; cases hv
          rw [R2.delta] at s2
          rw [R2.delta, R2.len] at hen
          omega
      · refine ⟨arr2, t2, fz2, by rw [hother _ hc (H.low hl0).1]; exact hh2, by rw [hle.sz _ _ _ hl0]; exact hsz2, hth2, fun hr i v hv => ?_⟩
        obtain ⟨v', h1, h2⟩ := hcell2 (hread fam2 hl0 R2.fam hr).1 i v hv
        exact ⟨v', h1, h2.mono hle⟩
  · intro b2 c2 d2 o hl2 hg2 ho
    simp only [] at hg2 ⊢
    rw [hget] at hg2
    rcases hloc _ _ hl2 with ⟨hb, hx⟩ | ⟨hb, hl0⟩
    · rw [if_pos hb] at hg2; cases hg2; cases ho
    · rw [if_neg hb] at hg2
      obtain ⟨h1, ⟨o', h2, h3⟩, h4⟩ := H.obj hl0 hg2 ho
      have hnf : e.fam b2 ≠ fam := by rw [← R.fam]; exact H.not_obj hl hg hl0 hg2 ho
      refine ⟨h1, ⟨o', ?_, h3.mono hle⟩, by rw [hfm _ hb, hF', if_neg hnf]; exact h4⟩
      rw [hother _ (fun hc => ?_) (H.low hl0).1]
      · exact h2
      · subst hc; exact hnf (hsep _ _ hl0).1
  · intro b1 b2 c2 d1 d2 h1 h2
    rcases hloc _ _ h1 with ⟨hb1, hx1⟩ | ⟨hb1, hl1⟩ <;> rcases hloc _ _ h2 with ⟨hb2, hx2⟩ | ⟨hb2, hl2⟩
    · cases hx1; cases hx2; subst hb1; subst hb2; exact ⟨rfl, rfl⟩
    · cases hx1
      obtain ⟨s1, s2, _⟩ := hsep _ _ hl2
      rw [hb1, hfm0, hdl0, hfm _ hb2, hdl _ hb2]
      exact ⟨s1.symm, s2⟩
    · cases hx2
      obtain ⟨s1, s2, _⟩ := hsep _ _ hl1
      rw [hb2, hfm0, hdl0, hfm _ hb1, hdl _ hb1]
      exact ⟨s1, s2.symm⟩
    · rw [hfm _ hb1, hfm _ hb2, hdl _ hb1, hdl _ hb2]; exact H.sep hl1 hl2
  · intro b1 b2 x1 x2 h1 h2 hf hnone
    simp only [] at hnone
    rw [hF'] at hnone
    by_cases hff : e'.fam b1 = fam
    · rw [if_pos hff] at hnone; cases hnone
    · rw [if_neg hff] at hnone
      rcases hloc _ _ h1 with ⟨hb1, hx1⟩ | ⟨hb1, hl1⟩
      · rw [hb1] at hff; exact absurd hfm0 hff
      · rcases hloc _ _ h2 with ⟨hb2, hx2⟩ | ⟨hb2, hl2⟩
        · rw [hf, hb2] at hff; exact absurd hfm0 hff
        · rw [hfm _ hb1, hfm _ hb2] at hf; rw [hfm _ hb1] at hnone; exact H.one hl1 hl2 hf hnone
  · intro b2 x F hl2 hFx hne
    simp only [] at hFx
    rw [hF'] at hFx
    rcases hloc _ _ hl2 with ⟨hb, hx⟩ | ⟨hb, hl0⟩
    · rw [hb, hfm0, if_pos rfl] at hFx
      cases hFx
      exact absurd (hb.trans hhead.symm) hne
    · rw [hdl _ hb, hln _ hb]
      by_cases hff : e'.fam b2 = fam
      · rw [if_pos hff] at hFx; cases hFx
        exact hends hl0 (by rw [← hfm _ hb]; exact hff)
      · rw [if_neg hff, hfm _ hb] at hFx
        exact H.old hl0 hFx hne
  · intro b2 hb
    have hb : h.next + 1 ≤ b2 := hb
    rw [he']; simp only [Env.ext]; rw [if_neg (by omega)]; exact H.new (by omega)
  · intro b2 x hl2
    show e'.fam b2 < h.next + 1
    rcases hloc _ _ hl2 with ⟨hb, hx⟩ | ⟨hb, hl0⟩
    · rw [hb, hfm0]; omega
    · rw [hfm _ hb]; have := H.famlt hl0; omega
  · intro f hf
    have hf : h.next + 1 ≤ f := hf
    rw [hF', if_neg (by omega)]
    exact H.famnew (by omega)
  · intro b2 c2 d2 hl2
    rcases hloc _ _ hl2 with ⟨hb, hx⟩ | ⟨hb, hl0⟩
    · cases hx; exact ⟨lt_of_heap hnew, fun _ => hlow⟩
    · have := H.low hl0; exact ⟨by omega, this.2⟩
  · have := H.base
    simp only []; omega
end
end Go.AM

namespace Go.AM
open Go Go.RowKit

theorem VRel.func' {e : Env} {f f' : Fn} {a a' b b' : Array Value} (hf : FnRel e f f') (ha : VsRel e a.toList a'.toList) (hb : VsRel e b.toList b'.toList) : VRel e (.func f a b) (.func f' a' b') :=
  .func hf (vsRel_arr.1 ha).1 (vsRel_arr.1 ha).2 (vsRel_arr.1 hb).1 (vsRel_arr.1 hb).2

mutual
theorem flat_rel (e : Env) : (v : Value) → flat v = true → VRel e v v
  | .bool b, _ => .bool b
  | .int k n, _ => .int k n
  | .string s, _ => .string s
  | .pointer none, _ => .nilptr
  | .slice none n c, _ => .slnil n c
  | .map none, _ => .mapnil
  | .nilFunc, _ => .nilFunc
  | .nilIface, _ => .nilIface
  | .iface t v, h => .iface t (flat_rel e v (by simpa [flat] using h))
  | .func (.func f) ⟨a⟩ ⟨b⟩, h => by
    simp only [flat, Bool.and_eq_true] at h
    have h1 := flats_rel e a h.1
    have h2 := flats_rel e b h.2
    exact .func' (.func f) h1 h2
  | .func (.via t p f q) ⟨a⟩ ⟨b⟩, h => by
    simp only [flat, Bool.and_eq_true] at h
    have h1 := flats_rel e a h.1
    have h2 := flats_rel e b h.2
    exact .func' (.via t p f q) h1 h2
  | .agg ⟨a⟩, h => .agg' (flats_rel e a (by simpa [flat] using h))
  | .tuple ⟨a⟩, h => .tuple' (flats_rel e a (by simpa [flat] using h))
  | .pointer (some _), h => by simp [flat] at h
  | .slice (some _) _ _, h => by simp [flat] at h
  | .map (some _), h => by simp [flat] at h
  | .float .., h => by simp [flat] at h
  | .complex .., h => by simp [flat] at h
  | .chan .., h => by simp [flat] at h
  | .func (.method _) _ _, h => by simp [flat] at h
  | .func (.methodOf _ _) _ _, h => by simp [flat] at h
  | .func (.yield _) _ _, h => by simp [flat] at h
theorem flats_rel (e : Env) : (l : List Value) → flats l = true → VsRel e l l
  | [], _ => VsRel.nil
  | a :: l, h => by
    simp only [flats, Bool.and_eq_true] at h
    exact VsRel.cons (flat_rel e a h.1) (flats_rel e l h.2)
end

/-! ## what an operation comes to -/
def Out (e : Env) (B0 : Nat) (w : World) (n : ANext) (r : Result Next) : Prop :=
  ∃ e', e.le e' ∧ match n with
    | .value v h => ∃ v' w', r = .ok (.value v') w' ∧ VRel e' v v' ∧ HRel e' B0 h w' ∧ Below B0 w w'
    | .skip h => ∃ w', r = .ok .skip w' ∧ HRel e' B0 h w' ∧ Below B0 w w'
    | .enter f args h => ∃ args' w', r = .ok (.enter f args') w' ∧ VsRel e' args args'.toList ∧ HRel e' B0 h w' ∧ Below B0 w w'
    | .round l f tmps n assign body h => ∃ l' tmps' w', r = .ok (.round l' f tmps' assign body) w' ∧ e'.loc l = some (l', 0) ∧ n < 1000000 ∧ TmpsRel e' tmps n tmps' ∧ HRel e' B0 h w' ∧ Below B0 w w'
    | .defer d h => ∃ d' w', r = .ok (.defer d') w' ∧ DRel e' d d' ∧ HRel e' B0 h w' ∧ Below B0 w w'
    | .recover h => ∃ w', r = .ok .recover w' ∧ HRel e' B0 h w' ∧ Below B0 w w'
    | .panic v h => ∃ v' w', r = .halt (.panic v') w' ∧ VRel e' v v' ∧ HRel e' B0 h w' ∧ Below B0 w w'

section
variable {P : Program} {X : FuncId → List Value → Option Value} {e : Env} {B0 : Nat} {h : AH} {w : World} {ρ ρ' : Operand → Value}

/-- an operation that gives a value. -/
theorem Out.value {e' : Env} {h' : AH} {w' : World} {v v' : Value} {s : Sem Value} (hr : s.run P w = .ok v' w') (hle : e.le e') (hv : VRel e' v v') (H : HRel e' B0 h' w') (hb : Below B0 w w') :
    Out e B0 w (.value v h') ((do pure (Next.value (← s)) : Sem Next).run P w) := by
  refine ⟨e', hle, v', w', ?_, hv, H, hb⟩
  simp [hr]

theorem Out.value0 {v v' : Value} {s : Sem Value} (H : HRel e B0 h w) (hr : s.run P w = .ok v' w) (hv : VRel e v v') :
    Out e B0 w (.value v h) ((do pure (Next.value (← s)) : Sem Next).run P w) :=
  Out.value hr (Env.le_refl e) hv H (Below.refl _ _)

theorem Out.skip {e' : Env} {h' : AH} {w' : World} {s : Sem Unit} (hr : s.run P w = .ok () w') (hle : e.le e') (H : HRel e' B0 h' w') (hb : Below B0 w w') :
    Out e B0 w (.skip h') ((do s; pure Next.skip : Sem Next).run P w) := by
  refine ⟨e', hle, w', ?_, H, hb⟩
  simp [hr]

theorem below_putRow {c : Nat} (hc : B0 ≤ c) (arr : Array Value) (t : TypeId) (fz : Nat × Nat) : Below B0 w (putRow w c arr t fz) :=
  ⟨rfl, rfl, rfl, by simp [putRow], fun k hk => by rw [heap_putRow, if_neg (by omega)]⟩

theorem below_push (hB : B0 ≤ w.heap.size) (o : Obj) : Below B0 w { w with heap := w.heap.push o } :=
  ⟨rfl, rfl, rfl, by simp, fun k hk => by rw [Array.getElem?_push, if_neg (by omega)]⟩

theorem below_set {c : Nat} (hc : B0 ≤ c) (o : Obj) : Below B0 w { w with heap := w.heap.setIfInBounds c o } :=
  ⟨rfl, rfl, rfl, by simp, fun k hk => Array.getElem?_setIfInBounds_ne (by omega)⟩

theorem below_drawn {w' : World} (hb : Below B0 w w') (n : Nat) : Below B0 w { w' with drawn := n } := ⟨hb.os, hb.tape, hb.output, hb.size, hb.block⟩

theorem isAgg_run (t : TypeId) (hu : (P.underlying t).isSome = true) : (Go.isAgg t).run P w = .ok (Go.AM.isAgg P t) w := by
  obtain ⟨d, hd⟩ := Option.isSome_iff_exists.1 hu
  unfold Go.isAgg Go.AM.isAgg
  rw [hd]
  simp only [Sem.run_bind, run_underlying hd, Result.andThen_ok]
  cases d <;> rfl

theorem sizeOf_run {t : TypeId} {n : Nat} (hs : Go.AM.sizeOf P t = some n) : (Go.sizeOf t).run P w = .ok n w := by
  unfold Go.AM.sizeOf at hs
  cases hi : P.info? t with
  | none => rw [hi] at hs; cases hs
  | some i =>
    rw [hi] at hs
    simp only [Option.map_some, Option.some.injEq] at hs
    simp [Go.sizeOf, typeInfo, hi, hs]

theorem info_of_size {t : TypeId} {n : Nat} (hs : Go.AM.sizeOf P t = some n) : ∃ i, P.info? t = some i ∧ i.size = n := by
  unfold Go.AM.sizeOf at hs
  cases hi : P.info? t with
  | none => rw [hi] at hs; cases hs
  | some i => rw [hi] at hs; exact ⟨i, rfl, by simpa using hs⟩

theorem typeInfo_run {t : TypeId} {i : TypeInfo} (hi : P.info? t = some i) : (typeInfo t).run P w = .ok i w := by simp [typeInfo, hi]

/-! ### loads and stores -/
theorem VRel.ptr_inv {b o : Nat} {v : Value} {sp : Option Nat} (hv : VRel e (.pointer (some ⟨b, o, sp⟩)) v) : sp = none ∧ ∃ c d, v = .pointer (some ⟨c, d + o, none⟩) ∧ e.loc b = some (c, d) := by
  cases hv with
  | ptr hl => exact ⟨rfl, _, _, rfl, hl⟩

theorem run_loadVar_agg (H : HRel e B0 h w) {t : TypeId} {b o c d n : Nat} {cs : List Value} (hl : e.loc b = some (c, d)) (hu : (P.underlying t).isSome = true) (ha : Go.AM.isAgg P t = true)
    (hs : Go.AM.sizeOf P t = some n) (hc : h.cellsAt b o n = some cs) : ∃ v', (loadVar t ⟨c, d + o, none⟩).run P w = .ok v' w ∧ VRel e (.agg cs.toArray) v' := by
  obtain ⟨cs', hcs, hlen, hcell⟩ := H.cellsAt hl hc
  refine ⟨.agg cs'.toArray, ?_, .agg_list hcs⟩
  have hlc := run_loadCells_list (P := P) w ⟨c, d + o, none⟩ cs' hcell
  rw [hlen] at hlc
  simp [loadVar, isAgg_run t hu, ha, sizeOf_run hs, hlc]

theorem run_loadVar_one (H : HRel e B0 h w) {t : TypeId} {b o c d : Nat} {v : Value} (hl : e.loc b = some (c, d)) (hu : (P.underlying t).isSome = true) (ha : Go.AM.isAgg P t = false)
    (hc : h.cellAt b o = some v) : ∃ v', (loadVar t ⟨c, d + o, none⟩).run P w = .ok v' w ∧ VRel e v v' := by
  obtain ⟨v', hc', hV⟩ := H.cellAt hl hc
  refine ⟨v', ?_, hV⟩
  simp [loadVar, isAgg_run t hu, ha, hc']

theorem run_storeVar (H : HRel e B0 h w) {t : TypeId} {b o c d n : Nat} {v v' : Value} {h' : AH} (hl : e.loc b = some (c, d)) (hs : Go.AM.sizeOf P t = some n) (hn : v.cells.toList.length = n)
    (hv : VRel e v v') (hst : h.storeAt b o v.cells.toList = some h') : ∃ w', (storeVar t ⟨c, d + o, none⟩ v').run P w = .ok () w' ∧ HRel e B0 h' w' ∧ Below B0 w w' ∧ h'.next = h.next := by
  obtain ⟨arr, ty, fz, hh, hfit, hth, hpl, hBc, hnx, H'⟩ := H.store hl hst hv.cells
  refine ⟨_, ?_, H', below_putRow hBc _ _ _, hnx⟩
  have hsz : v'.cells.size = n := by rw [← hn]; have := hv.cells.1; simpa using this.symm
  have hrun := run_storeCells P c (d + o) ty fz v'.cells.toList w arr 0 hh hpl (by simpa using hfit) hth
  rw [Nat.add_zero] at hrun
  simp [storeVar, sizeOf_run hs, hsz, hrun]
end
end Go.AM

namespace Go.AM
open Go Go.RowKit

section
variable {P : Program} {X : FuncId → List Value → Option Value} {e : Env} {B0 : Nat} {h : AH} {w : World} {ρ ρ' : Operand → Value}

theorem opt_map_some {α β : Type} {x : Option α} {f : α → β} {y : β} (hx : x.map f = some y) : ∃ a, x = some a ∧ f a = y := by
  cases x with
  | none => cases hx
  | some a => exact ⟨a, rfl, Option.some.inj hx⟩

theorem opt_bind_some {α β : Type} {x : Option α} {f : α → Option β} {y : β} (hx : x.bind f = some y) : ∃ a, x = some a ∧ f a = some y := by
  cases x with
  | none => cases hx
  | some a => exact ⟨a, rfl, hx⟩

theorem cond_some {α : Type} {c : Bool} {x : Option α} {y : α} (hx : cond c x none = some y) : c = true ∧ x = some y := by
  cases c with
  | false => cases hx
  | true => exact ⟨rfl, hx⟩

/-! ### new rows and objects -/
theorem newRow_sim (H : HRel e B0 h w) {cs : List Value} {size es b : Nat} {h1 : AH} (hn : h.newRow cs size es = some (h1, b)) (arr : Array Value) (t : TypeId) (fz : Nat × Nat) (hth : Thawed arr fz)
    (hlen : size ≤ arr.size) (hrel : ∀ (i : Nat) (v : Value), cs[i]? = some v → ∃ v', arr[i]? = some v' ∧ VRel e v v') :
    ∃ e', e.le e' ∧ HRel e' B0 h1 { w with heap := w.heap.push (.cells arr t fz) } ∧ e'.loc b = some (w.heap.size, 0) ∧ e'.es b = es ∧ e'.sz w.heap.size = arr.size ∧ Below B0 w { w with heap := w.heap.push (.cells arr t fz) } := by
  unfold AH.newRow at hn
  obtain ⟨hc, hn⟩ := cond_some hn
  simp only [Bool.and_eq_true, nblt, nbeq, decide_eq_true_eq] at hc
  obtain ⟨⟨hc1, hc2⟩, hc3⟩ := hc
  simp only [Option.some.injEq, Prod.mk.injEq] at hn
  obtain ⟨rfl, rfl⟩ := hn
  have hle0 : e.le (e.ext h.next w.heap.size 0 h.next 0 size es arr.size) := Env.ext_le (H.new (Nat.le_refl _)) (fun b' d' hb' => by have := (H.low hb').1; omega) (by rw [H.nx]; exact Nat.le_refl _) (.inl (by rw [H.nx]; exact Nat.le_refl _))
  obtain ⟨h1, h2⟩ := H.grow hc1 (.cells arr t fz) h.next 0 size es arr.size rfl (.row cs size es h.next 0) _ rfl
    (fun cs' size' es' fam' delta' ho => by
      cases ho
      exact ⟨rfl, rfl, rfl, rfl, hc2, hlen, arr, t, fz, rfl, rfl, hth, fun i v hv => by
        obtain ⟨v', a, b⟩ := hrel i v hv
        exact ⟨v', a, b.mono hle0⟩⟩)
    (fun ho => by cases ho)
  exact ⟨_, h1, h2, by simp [Env.ext], by simp [Env.ext], by simp [Env.ext], below_push H.base.2.2 _⟩

theorem newObj_sim (H : HRel e B0 h w) {o : AObj} {b : Nat} {h1 : AH} (hn : h.newObj o = some (h1, b)) (ho : o.isRow = false) (o' : Obj) (hrel : ∀ e', e.le e' → ObjRel e' o o') :
    ∃ e', e.le e' ∧ HRel e' B0 h1 { w with heap := w.heap.push o' } ∧ e'.loc b = some (w.heap.size, 0) ∧ Below B0 w { w with heap := w.heap.push o' } := by
  unfold AH.newObj at hn
  obtain ⟨hc1, hn⟩ := cond_some hn
  simp only [nblt, decide_eq_true_eq] at hc1
  simp only [Option.some.injEq, Prod.mk.injEq] at hn
  obtain ⟨rfl, rfl⟩ := hn
  have hle0 : e.le (e.ext h.next w.heap.size 0 h.next 0 0 0 0) := Env.ext_le (H.new (Nat.le_refl _)) (fun b' d' hb' => by have := (H.low hb').1; omega) (by rw [H.nx]; exact Nat.le_refl _) (.inl (by rw [H.nx]; exact Nat.le_refl _))
  obtain ⟨h1, h2⟩ := H.grow hc1 o' h.next 0 0 0 0 rfl o _ rfl
    (fun cs' size' es' fam' delta' ho' => by subst ho'; cases ho)
    (fun _ => hrel _ hle0)
  exact ⟨_, h1, h2, by simp [Env.ext], below_push H.base.2.2 _⟩

theorem thawed0 (arr : Array Value) : Thawed arr (0, 0) := .inl rfl

theorem zeroVal_run {t : TypeId} {z : Value} (hz : zeroVal P t = some z) : (zeroValue t).run P w = .ok z w ∧ flat z = true := by
  unfold zeroVal at hz
  split at hz
  · rename_i i hi
    split at hz
    · rename_i z' hz'
      obtain ⟨hf, hz⟩ := cond_some hz
      cases hz
      exact ⟨by simp [zeroValue, typeInfo, hi, hz'], hf⟩
    · cases hz
  · cases hz

theorem zeroVal_info {t : TypeId} {z : Value} (hz : zeroVal P t = some z) : ∃ i, P.info? t = some i ∧ i.zero = some z := by
  unfold zeroVal at hz
  split at hz
  · rename_i i hi
    split at hz
    · rename_i z' hz'
      obtain ⟨hf, hz⟩ := cond_some hz
      cases hz
      exact ⟨i, hi, hz'⟩
    · cases hz
  · cases hz

theorem rel_arr {cs cs' : Array Value} (hv : VsRel e cs.toList cs'.toList) : ∀ (i : Nat) (v : Value), cs.toList[i]? = some v → ∃ v', cs'[i]? = some v' ∧ VRel e v v' := by
  intro i v hi
  obtain ⟨v', h1, h2⟩ := hv.get hi
  exact ⟨v', by simpa using h1, h2⟩

theorem sim_alloc (H : HRel e B0 h w) {t : TypeId} {n : ANext} (hx : ((zeroCells P t).bind fun z => (h.newRow z z.length 0).map fun (h, b) => ANext.value (.pointer (some ⟨b, 0, none⟩)) h) = some n) :
    Out e B0 w n ((do pure (Next.value (← Instr.alloc t true (.tuple #[]))) : Sem Next).run P w) := by
  obtain ⟨z, hz, hx⟩ := opt_bind_some hx
  obtain ⟨⟨h1, b⟩, hn, rfl⟩ := opt_map_some hx
  obtain ⟨zv, hzv, rfl⟩ := opt_map_some hz
  obtain ⟨hzr, hzf⟩ := zeroVal_run (w := w) hzv
  obtain ⟨e', hle, H', hloc, _, _, hb⟩ := newRow_sim H hn zv.cells t (0, 0) (thawed0 _) (by simp) (rel_arr (flat_rel e zv hzf).cells)
  have hrun : (Instr.alloc t true (.tuple #[])).run P w = .ok (.pointer (some ⟨w.heap.size, 0, none⟩)) { w with heap := w.heap.push (.cells zv.cells t) } := by
    simp [Instr.alloc, hzr, newVar, newRow]
  have hp : VRel e' (.pointer (some ⟨b, 0, none⟩)) (.pointer (some ⟨w.heap.size, 0 + 0, none⟩)) := .ptr hloc
  exact Out.value hrun hle hp H' hb

theorem sim_box (H : HRel e B0 h w) {t : TypeId} {x x' : Value} {n : ANext} (hV : VRel e x x') (hx : ((h.newRow x.cells.toList x.cells.toList.length 0).map fun (h, b) => ANext.value (.pointer (some ⟨b, 0, none⟩)) h) = some n) :
    Out e B0 w n ((do pure (Next.value (← Instr.box t x')) : Sem Next).run P w) := by
  obtain ⟨⟨h1, b⟩, hn, rfl⟩ := opt_map_some hx
  obtain ⟨e', hle, H', hloc, _, _, hb⟩ := newRow_sim H hn x'.cells t (0, 0) (thawed0 _) (by have := hV.cells.1; simp at this; simp [this]) (rel_arr hV.cells)
  have hrun : (Instr.box t x').run P w = .ok (.pointer (some ⟨w.heap.size, 0, none⟩)) { w with heap := w.heap.push (.cells x'.cells t) } := by
    simp [Instr.box, newVar, newRow]
  have hp : VRel e' (.pointer (some ⟨b, 0, none⟩)) (.pointer (some ⟨w.heap.size, 0 + 0, none⟩)) := .ptr hloc
  exact Out.value hrun hle hp H' hb

theorem sim_makeMap (H : HRel e B0 h w) {t : TypeId} {n : ANext} (hx : ((h.newObj (.map [] 0)).map fun (h, b) => ANext.value (.map (some b)) h) = some n) :
    Out e B0 w n ((do pure (Next.value (← Instr.makeMap t none)) : Sem Next).run P w) := by
  obtain ⟨⟨h1, b⟩, hn, rfl⟩ := opt_map_some hx
  obtain ⟨e', hle, H', hloc, hb⟩ := newObj_sim H hn rfl (.map #[] 0) (fun e' _ => ⟨rfl, rfl, fun i x y hx => by simp at hx⟩)
  have hrun : (Instr.makeMap t none).run P w = .ok (.map (some w.heap.size)) { w with heap := w.heap.push (.map #[] 0) } := by
    simp [Instr.makeMap]
  exact Out.value hrun hle (.map hloc) H' hb

/-! ### build -/
theorem writes_foldl : ∀ (l : List Value) (off k : Nat) (cells : Array Value), ((l.zipIdx k).foldl (fun cs (c, j) => cs.setIfInBounds (off + j) c) cells) = writeAt cells (off + k) l
  | [], off, k, cells => rfl
  | v :: l, off, k, cells => by
    simp only [List.zipIdx_cons, List.foldl_cons, writeAt]
    rw [writes_foldl l off (k + 1)]
    rfl

theorem over_writeAt {cs : List Value} {arr : Array Value} {off : Nat} {vs vs' : List Value} (hc : VsRel e cs arr.toList) (hv : VsRel e vs vs') (hf : off + vs.length ≤ cs.length) :
    VsRel e (over cs off vs) (writeAt arr off vs').toList := by
  have hs : arr.size = cs.length := by have := hc.1; simpa using this.symm
  have hl := hv.1
  refine ⟨by simp [length_over, size_writeAt, hs], fun i x y hx hy => ?_⟩
  rw [getElem?_over] at hx
  rw [Array.getElem?_toList, getElem?_writeAt _ _ _ _ (by omega)] at hy
  by_cases hin : off ≤ i ∧ i < off + vs.length ∧ i < cs.length
  · rw [if_pos hin] at hx
    rw [if_pos (by omega)] at hy
    exact hv.2 _ _ _ hx hy
  · rw [if_neg hin] at hx
    have hil : i < cs.length := by
      rcases Nat.lt_or_ge i cs.length with hlt | hge
      · exact hlt
      · rw [List.getElem?_eq_none hge] at hx; cases hx
    rw [if_neg (by omega)] at hy
    exact hc.2 _ _ _ hx (by simpa using hy)

theorem fill_sim (place : Nat → Option (Nat × Nat)) : ∀ (parts : List (Nat × Value)) (parts' : List (Nat × Value)) (cs : List Value) (arr : Array Value) (res : List Value),
    parts.length = parts'.length → (∀ (i : Nat) (p p' : Nat × Value), parts[i]? = some p → parts'[i]? = some p' → p.1 = p'.1 ∧ VRel e p.2 p'.2) → VsRel e cs arr.toList → fillA place cs parts = some res →
    ∃ arr', Instr.fill place arr parts' = some arr' ∧ VsRel e res arr'.toList ∧ res.length = cs.length
  | [], parts', cs, arr, res, hl, _, hc, hf => by
    have : parts' = [] := List.eq_nil_of_length_eq_zero (by simpa using hl.symm)
    subst this
    simp only [fillA, Option.some.injEq] at hf
    subst hf
    exact ⟨arr, rfl, hc, rfl⟩
  | (i, v) :: parts, parts', cs, arr, res, hl, hr, hc, hf => by
    cases parts' with
    | nil => simp at hl
    | cons p' parts' =>
      obtain ⟨i', v'⟩ := p'
      obtain ⟨rfl, hV⟩ := hr 0 _ _ rfl rfl
      simp only [fillA] at hf
      split at hf
      · cases hf
      · rename_i off size hp
        obtain ⟨hcnd, hf⟩ := cond_some hf
        simp only [Bool.and_eq_true, nbeq, nble, decide_eq_true_eq] at hcnd
        have hs : arr.size = cs.length := by have := hc.1; simpa using this.symm
        have hcl := hV.cells.1
        have h1 := hcnd.1
        simp only [Array.length_toList] at hcl h1
        obtain ⟨arr', f1, f2, f3⟩ := fill_sim place parts parts' (over cs off v.cells.toList) (writeAt arr off v'.cells.toList) res (by simpa using hl) (fun j p p' hp hp' => hr (j + 1) p p' hp hp')
          (over_writeAt hc hV.cells (by simp; omega)) hf
        refine ⟨arr', ?_, f2, by rw [f3, length_over]⟩
        simp only [Instr.fill, hp]
        have hno : (v'.cells.size ≠ size || decide (off + v'.cells.size > arr.size)) = false := by
          simp only [ne_eq, decide_not, Bool.or_eq_false_iff, Bool.not_eq_false', decide_eq_true_eq, decide_eq_false_iff_not]
          omega
        rw [hno]
        simp only [Bool.false_eq_true, if_false]
        have := writes_foldl v'.cells.toList off 0 arr
        rw [Nat.add_zero] at this
        rw [← f1]
        congr 1
        rw [← this, ← Array.foldl_toList]
        simp
end
end Go.AM

namespace Go.AM
open Go Go.RowKit

section
variable {P : Program} {X : FuncId → List Value → Option Value} {e : Env} {B0 : Nat} {h : AH} {w : World} {ρ ρ' : Operand → Value}

theorem parts_rel {parts : Array (Nat × Operand)} (hρ : ∀ x ∈ parts.toList.map (·.2), VRel e (ρ x) (ρ' x)) :
    (parts.toList.map fun (i, x) => (i, ρ x)).length = (parts.map fun (i, x) => (i, ρ' x)).toList.length ∧
    ∀ (i : Nat) (p p' : Nat × Value), (parts.toList.map fun (i, x) => (i, ρ x))[i]? = some p → (parts.map fun (i, x) => (i, ρ' x)).toList[i]? = some p' → p.1 = p'.1 ∧ VRel e p.2 p'.2 := by
  refine ⟨by simp, fun i p p' hp hp' => ?_⟩
  simp only [Array.toList_map, List.getElem?_map] at hp hp'
  cases hq : parts.toList[i]? with
  | none => rw [hq] at hp; cases hp
  | some q =>
    rw [hq] at hp hp'
    simp only [Option.map_some, Option.some.injEq] at hp hp'
    subst hp; subst hp'
    exact ⟨rfl, hρ _ (List.mem_map.2 ⟨q, List.mem_of_getElem? hq, rfl⟩)⟩

theorem places_eq : ∀ (fs : List Field) (places : List (Nat × Nat)), fs.mapM (fun (f : Field) => (P.info? f.type).map fun i => (f.offset, i.size)) = some places →
    ∀ (i : Nat), places[i]? = (fs[i]?).bind fun (f : Field) => (Go.AM.sizeOf P f.type).map fun n => (f.offset, n)
  | [], places, h, i => by simp at h; subst h; simp
  | f :: fs, places, h, i => by
    simp only [List.mapM_cons, Option.bind_eq_bind, Option.pure_def] at h
    cases hi : P.info? f.type with
    | none => simp [hi] at h
    | some ti =>
      cases hr : fs.mapM (fun (f : Field) => (P.info? f.type).map fun i => (f.offset, i.size)) with
      | none => simp [hi, hr] at h
      | some rest =>
        simp [hi, hr] at h
        subst h
        cases i with
        | zero => simp [Go.AM.sizeOf, hi]
        | succ i => simpa using places_eq fs rest hr i

theorem fields_mapM : ∀ (fs : List Field), (fs.all fun (f : Field) => (P.info? f.type).isSome) = true → ∃ places, fs.mapM (fun (f : Field) => (P.info? f.type).map fun i => (f.offset, i.size)) = some places
  | [], _ => ⟨[], rfl⟩
  | f :: fs, h => by
    simp only [List.all_cons, Bool.and_eq_true] at h
    obtain ⟨rest, hr⟩ := fields_mapM fs h.2
    obtain ⟨i, hi⟩ := Option.isSome_iff_exists.1 h.1
    exact ⟨(f.offset, i.size) :: rest, by simp [List.mapM_cons, hi, hr]⟩

theorem fillA_congr {p q : Nat → Option (Nat × Nat)} (hpq : ∀ i, p i = q i) : ∀ (parts : List (Nat × Value)) (cs : List Value), fillA p cs parts = fillA q cs parts
  | [], cs => rfl
  | (i, v) :: parts, cs => by
    simp only [fillA, hpq i]
    split
    · rfl
    · rw [fillA_congr hpq parts]

theorem sim_build_struct (H : HRel e B0 h w) {t : TypeId} {fields : Array Field} {parts : Array (Nat × Operand)} {z cs : List Value} (hu : P.underlying t = some (.struct fields)) (hz : zeroCells P t = some z) (hok : fieldsOK P fields = true)
    (hρ : ∀ x ∈ parts.toList.map (·.2), VRel e (ρ x) (ρ' x))
    (hf : fillA (fun i => match fields[i]? with | some f => (Go.AM.sizeOf P f.type).map fun n => (f.offset, n) | none => none) z (parts.toList.map fun (i, x) => (i, ρ x)) = some cs) :
    Out e B0 w (.value (.agg cs.toArray) h) ((do pure (Next.value (← Instr.build t (parts.map fun (i, x) => (i, ρ' x)))) : Sem Next).run P w) := by
  obtain ⟨zv, hzv, rfl⟩ := opt_map_some hz
  obtain ⟨it, hit, hzz⟩ := zeroVal_info hzv
  obtain ⟨places, hp⟩ := fields_mapM fields.toList hok
  have hpl := places_eq _ _ hp
  have hcg : ∀ (i : Nat), (match fields[i]? with | some f => (Go.AM.sizeOf P f.type).map fun n => (f.offset, n) | none => none) = places.toArray[i]? := by
    intro i
    have := hpl i
    simp only [Array.getElem?_toList] at this
    simp only [List.getElem?_toArray, this]
    cases fields[i]? <;> rfl
  rw [fillA_congr hcg] at hf
  obtain ⟨hl, hr⟩ := parts_rel hρ
  obtain ⟨arr', f1, f2, _⟩ := fill_sim _ _ _ _ _ _ hl hr (flat_rel e zv (zeroVal_run (w := w) hzv).2).cells hf
  have hb : P.built t (parts.map fun (i, x) => (i, ρ' x)).toList = some arr' := by
    unfold Program.built
    simp only [hit, hu, hzz, hp]
    exact f1
  exact Out.value0 H (run_build w t _ arr' hb) (.agg' (by simpa using f2))

theorem sim_build_array (H : HRel e B0 h w) {t el : TypeId} {len size : Nat} {parts : Array (Nat × Operand)} {z cs : List Value} (hu : P.underlying t = some (.array len el)) (hz : zeroCells P t = some z) (hs : Go.AM.sizeOf P el = some size)
    (hρ : ∀ x ∈ parts.toList.map (·.2), VRel e (ρ x) (ρ' x)) (hf : fillA (fun i => some (i * size, size)) z (parts.toList.map fun (i, x) => (i, ρ x)) = some cs) :
    Out e B0 w (.value (.agg cs.toArray) h) ((do pure (Next.value (← Instr.build t (parts.map fun (i, x) => (i, ρ' x)))) : Sem Next).run P w) := by
  obtain ⟨zv, hzv, rfl⟩ := opt_map_some hz
  obtain ⟨it, hit, hzz⟩ := zeroVal_info hzv
  obtain ⟨ie, hie, hies⟩ := info_of_size hs
  obtain ⟨hl, hr⟩ := parts_rel hρ
  obtain ⟨arr', f1, f2, _⟩ := fill_sim _ _ _ _ _ _ hl hr (flat_rel e zv (zeroVal_run (w := w) hzv).2).cells hf
  have hb : P.built t (parts.map fun (i, x) => (i, ρ' x)).toList = some arr' := by
    unfold Program.built
    simp only [hit, hu, hzz, hie, hies]
    exact f1
  exact Out.value0 H (run_build w t _ arr' hb) (.agg' (by simpa using f2))

theorem getElem?_flatten_replicate {z : List Value} {size : Nat} (hz : z.length = size) : ∀ (len i : Nat), i < len * size → (List.replicate len z).flatten[i]? = z[i % size]?
  | 0, i, h => by simp at h
  | len + 1, i, h => by
    rw [List.replicate_succ, List.flatten_cons]
    by_cases hi : i < size
    · rw [List.getElem?_append_left (by omega), Nat.mod_eq_of_lt hi]
    · rw [List.getElem?_append_right (by omega), getElem?_flatten_replicate hz len _ (by rw [Nat.succ_mul] at h; omega), hz]
      congr 1
      exact (Nat.mod_eq_sub_mod (by omega)).symm

theorem zeros_rel {zv : Value} (hf : flat zv = true) {size len : Nat} (hz : zv.cells.size = size) :
    VsRel e (List.replicate len zv.cells.toList).flatten ((Array.range (len * size)).map (zv.cells[· % zv.cells.size]!)).toList := by
  have hzl : zv.cells.toList.length = size := by simpa using hz
  have hR := (flat_rel e zv hf).cells
  refine ⟨by simp [hz], fun i x y hx hy => ?_⟩
  have hi : i < len * size := by
    rcases Nat.lt_or_ge i (len * size) with hlt | hge
    · exact hlt
    · rw [List.getElem?_eq_none (by simp [hz]; omega)] at hy; cases hy
  rw [getElem?_flatten_replicate hzl _ _ hi] at hx
  simp only [Array.toList_map, Array.toList_range, List.getElem?_map, List.getElem?_range hi, Option.map_some, Option.some.injEq] at hy
  have hpos : 0 < size := by
    rcases Nat.eq_zero_or_pos size with h0 | h0
    · subst h0; simp at hi
    · exact h0
  have hlt : i % size < zv.cells.size := by rw [hz]; exact Nat.mod_lt _ hpos
  have hxx : x = zv.cells[i % size] := by
    have : zv.cells.toList[i % size]? = some zv.cells[i % size] := by simp [hlt]
    rw [this] at hx; exact (Option.some.inj hx).symm
  have hyy : y = zv.cells[i % size] := by
    rw [← hy, hz, getElem!_pos zv.cells (i % size) hlt]
  rw [hxx, hyy]
  have hg : zv.cells.toList[i % size]? = some zv.cells[i % size] := by simp [hlt]
  exact hR.2 _ _ _ hg hg

theorem sim_buildSlice (H : HRel e B0 h w) {t el : TypeId} {len size : Nat} {parts : Array (Nat × Operand)} {z : List Value} {n : ANext} (hu : P.underlying t = some (.slice el)) (hs : Go.AM.sizeOf P el = some size) (hz : zeroCells P el = some z)
    (hzl : z.length = size) (hsmall : len * size ≤ 4096) (hρ : ∀ x ∈ parts.toList.map (·.2), VRel e (ρ x) (ρ' x))
    (hx : ((fillA (fun i => some (i * size, size)) (List.replicate len z).flatten (parts.toList.map fun (i, x) => (i, ρ x))).bind fun cs =>
          (h.newRow cs (len * size) size).map fun (h, b) => ANext.value (.slice (some ⟨b, 0, none⟩) len len) h) = some n) :
    Out e B0 w n ((do pure (Next.value (← Instr.buildSlice t len (parts.map fun (i, x) => (i, ρ' x)))) : Sem Next).run P w) := by
  obtain ⟨cs, hf, hx⟩ := opt_bind_some hx
  obtain ⟨⟨h1, b⟩, hn, rfl⟩ := opt_map_some hx
  obtain ⟨zv, hzv, rfl⟩ := opt_map_some hz
  obtain ⟨hzr, hzf⟩ := zeroVal_run (w := w) hzv
  have hzs : zv.cells.size = size := by simpa using hzl
  obtain ⟨hl, hr⟩ := parts_rel hρ
  obtain ⟨arr', f1, f2, f3⟩ := fill_sim _ _ _ _ _ _ hl hr (zeros_rel (e := e) hzf (len := len) hzs) hf
  have hlen : cs.length = len * size := by rw [f3]; simp [hzs]
  have hal : arr'.size = len * size := by have := f2.1; simp at this; omega
  obtain ⟨e', hle, H', hloc, hes, hsz, hb⟩ := newRow_sim H hn arr' el (0, 0) (thawed0 _) (by omega) (fun i v hi => by
    obtain ⟨v', a, b⟩ := f2.get hi
    exact ⟨v', by simpa using a, b⟩)
  have hrun : (Instr.buildSlice t len (parts.map fun (i, x) => (i, ρ' x))).run P w = .ok (.slice (some ⟨w.heap.size, 0, none⟩) len len) { w with heap := w.heap.push (.cells arr' el) } := by
    have hno : ¬ len * size > 2 ^ 24 := by omega
    by_cases h0 : len * size = 0
    · have f1' : Instr.fill (fun i => some (i * size, size)) #[] (parts.toList.map fun x => (x.1, ρ' x.2)) = some arr' := by
        rw [← f1]; simp [h0, Array.range_zero']
      simp [Instr.buildSlice, run_underlying hu, sizeOf_run hs, h0, f1', newRow, Array.range_zero']
    · have f1' : Instr.fill (fun i => some (i * size, size)) ((Array.range (len * size)).map (zv.cells[· % zv.cells.size]!)) (parts.toList.map fun x => (x.1, ρ' x.2)) = some arr' := by
        rw [← f1]; simp
      have hno' : ¬ 16777216 < len * size := by omega
      simp [Instr.buildSlice, run_underlying hu, sizeOf_run hs, h0, hzr, f1', newRow, hno']
  have hp : VRel e' (.slice (some ⟨b, 0, none⟩) len len) (.slice (some ⟨w.heap.size, 0 + 0, none⟩) len len) := .sl hloc (Nat.le_refl _) (.inl rfl)
  exact Out.value hrun hle hp H' hb

/-! ### loads, stores, checks -/
theorem sim_load (H : HRel e B0 h w) {t : TypeId} {a a' : Value} {n : ANext} (hu : (P.underlying t).isSome = true) (hV : VRel e a a')
    (hx : (match (generalizing := false) a with
      | .pointer (some a) => cond (Go.AM.isAgg P t) ((Go.AM.sizeOf P t).bind fun n => (h.cellsAt a.block a.off n).map fun cs => ANext.value (.agg cs.toArray) h) ((h.cellAt a.block a.off).map fun v => .value v h)
      | _ => none) = some n) : Out e B0 w n ((do pure (Next.value (← Instr.loadAt t a')) : Sem Next).run P w) := by
  cases hV <;> try (cases hx; done)
  rename_i b c d o hl
  simp only [] at hx
  cases ha : Go.AM.isAgg P t with
  | true =>
    rw [ha, cond_true] at hx
    obtain ⟨k, hk, hx⟩ := opt_bind_some hx
    obtain ⟨cs, hcs, rfl⟩ := opt_map_some hx
    obtain ⟨v', hr, hv⟩ := run_loadVar_agg H hl hu ha hk hcs
    exact Out.value0 H (by simpa [Instr.loadAt, Instr.sureAddr] using hr) hv
  | false =>
    rw [ha, cond_false] at hx
    obtain ⟨v, hv, rfl⟩ := opt_map_some hx
    obtain ⟨v', hr, hV⟩ := run_loadVar_one H hl hu ha hv
    exact Out.value0 H (by simpa [Instr.loadAt, Instr.sureAddr] using hr) hV

theorem sim_store (H : HRel e B0 h w) {t : TypeId} {a a' x x' : Value} {n : ANext} (hV : VRel e a a') (hX : VRel e x x')
    (hx : (match (generalizing := false) a with
      | .pointer (some a) => (Go.AM.sizeOf P t).bind fun n => cond (Nat.beq x.cells.toList.length n) ((h.storeAt a.block a.off x.cells.toList).map fun h => ANext.skip h) none
      | _ => none) = some n) : Out e B0 w n ((do Instr.storeAt t a' x'; pure Next.skip : Sem Next).run P w) := by
  cases hV <;> try (cases hx; done)
  rename_i b c d o hl
  simp only [] at hx
  obtain ⟨k, hk, hx⟩ := opt_bind_some hx
  obtain ⟨hc, hx⟩ := cond_some hx
  obtain ⟨h1, hh1, rfl⟩ := opt_map_some hx
  obtain ⟨w', hr, H', hb, _⟩ := run_storeVar H hl hk (by simpa [nbeq] using hc) hX hh1
  exact Out.skip (by simpa [Instr.storeAt, Instr.sureAddr] using hr) (Env.le_refl e) H' hb

theorem sim_nilCheck (H : HRel e B0 h w) {x : Operand} {n : ANext} (hV : VRel e (ρ x) (ρ' x)) {o : Oper} (ho : o.op = .nilCheck x)
    (hx : (match (generalizing := false) ρ x with
    | .pointer (some a) => some (ANext.value (.pointer (some a)) h)
    | .func (.func f) a b => some (.value (.func (.func f) a b) h)
    | .func (.via t p f q) a b => some (.value (.func (.via t p f q) a b) h)
    | .func (.yield l) a b => some (.value (.func (.yield l) a b) h)
    | .iface t v => some (.value (.iface t v) h)
    | _ => none) = some n) : Out e B0 w n ((execOp ρ' o).run P w) := by
  unfold execOp
  rw [ho]
  simp only []
  generalize ρ x = v at *
  generalize ρ' x = v' at *
  cases hV <;> try (cases hx; done)
  · rename_i b c d o hl
    cases hx
    exact ⟨e, Env.le_refl e, _, w, rfl, .ptr hl, H, Below.refl _ _⟩
  · rename_i f f' a a' b b' hf ha hA hb hB
    cases hf <;> (cases hx; exact ⟨e, Env.le_refl e, _, w, rfl, .func (by constructor; try assumption) ha hA hb hB, H, Below.refl _ _⟩)
  · rename_i t v v' hv
    cases hx
    exact ⟨e, Env.le_refl e, _, w, rfl, .iface t hv, H, Below.refl _ _⟩
end
end Go.AM

namespace Go.AM
open Go Go.RowKit

section
variable {P : Program} {X : FuncId → List Value → Option Value} {e : Env} {B0 : Nat} {h : AH} {w : World} {ρ ρ' : Operand → Value}

theorem part_sim {t : TypeId} {cs : List Value} {cs' : Array Value} {off : Nat} {v : Value} (hp : partOf P t cs off = some v) (hc : VsRel e cs cs'.toList) :
    ∃ v', (part t cs' off).run P w = .ok v' w ∧ VRel e v v' := by
  unfold partOf at hp
  split at hp
  case h_2 => cases hp
  rename_i d hd
  have hu : (P.underlying t).isSome = true := by rw [hd]; rfl
  cases ha : Go.AM.isAgg P t with
  | true =>
    rw [ha, cond_true] at hp
    obtain ⟨n, hn, rfl⟩ := opt_map_some hp
    refine ⟨.agg (cs'.extract off (off + n)), by simp [part, isAgg_run t hu, ha, sizeOf_run hn], ?_⟩
    apply VRel.agg'
    have : (cs'.extract off (off + n)).toList = (cs'.toList.drop off).take n := by
      simp [List.extract_eq_take_drop]
    rw [this]
    simpa using (hc.drop off).take n
  | false =>
    rw [ha, cond_false] at hp
    obtain ⟨v', h1, h2⟩ := hc.get hp
    have h1' : cs'[off]? = some v' := by simpa using h1
    exact ⟨v', by simp [part, isAgg_run t hu, ha, h1'], h2⟩

theorem sim_field (H : HRel e B0 h w) {t : TypeId} {x x' : Value} {k : Nat} {n : ANext} (hV : VRel e x x')
    (hx : (match (generalizing := false) P.underlying t, x with
    | some (.struct fields), .agg cs => (fields[k]?).bind fun fd => (partOf P fd.type cs.toList fd.offset).map fun v => ANext.value v h
    | _, _ => none) = some n) : Out e B0 w n ((do pure (Next.value (← Instr.field t x' k)) : Sem Next).run P w) := by
  split at hx
  case h_2 => cases hx
  rename_i fields cs hu
  obtain ⟨cs', rfl, hcs⟩ := hV.agg_inv
  obtain ⟨fd, hfd, hx⟩ := opt_bind_some hx
  obtain ⟨v, hv, rfl⟩ := opt_map_some hx
  obtain ⟨v', hr, hV'⟩ := part_sim (w := w) hv hcs
  exact Out.value0 H (by simp [Instr.field, run_underlying hu, hfd, asAgg, hr]) hV'

theorem sim_index (H : HRel e B0 h w) {t : TypeId} {x x' i i' : Value} {n : ANext} (hV : VRel e x x') (hI : VRel e i i')
    (hx : (match (generalizing := false) P.underlying t, x, i with
    | some (.array len e), .agg cs, .int _ i => if 0 ≤ i ∧ i < len then (Go.AM.sizeOf P e).bind fun n => (partOf P e cs.toList (i.toNat * n)).map fun v => ANext.value v h else none
    | some .string, .string s, .int _ i => if 0 ≤ i then (s.data.toList[i.toNat]?).map fun b => .value (.int .u8 b.toNat) h else none
    | _, _, _ => none) = some n) : Out e B0 w n ((do pure (Next.value (← Instr.index t x' i')) : Sem Next).run P w) := by
  split at hx
  case h_3 => cases hx
  · rename_i len el cs k i hu
    obtain ⟨cs', rfl, hcs⟩ := hV.agg_inv
    cases hI
    split at hx
    case isFalse => cases hx
    rename_i hi
    obtain ⟨sz, hsz, hx⟩ := opt_bind_some hx
    obtain ⟨v, hv, rfl⟩ := opt_map_some hx
    obtain ⟨v', hr, hV'⟩ := part_sim (w := w) hv hcs
    exact Out.value0 H (by simp [Instr.index, run_underlying hu, asIntOf, hi, sizeOf_run hsz, hr]) hV'
  · rename_i s k i hu
    cases hV; cases hI
    split at hx
    case isFalse => cases hx
    rename_i hi
    obtain ⟨b, hb, rfl⟩ := opt_map_some hx
    have hb' : s[i.toNat]? = some b := by
      rw [Array.getElem?_toList] at hb
      obtain ⟨hlt, hbe⟩ := Array.getElem?_eq_some_iff.1 hb
      have hlt' : i.toNat < s.size := hlt
      rw [getElem?_pos s i.toNat hlt']
      exact congrArg some hbe
    exact Out.value0 H (by simp [Instr.index, run_underlying hu, asIntOf, hi, hb']) (.int _ _)

theorem sim_fieldAddr (H : HRel e B0 h w) {t : TypeId} {x x' : Value} {k : Nat} {n : ANext} (hV : VRel e x x')
    (hx : (match (generalizing := false) P.underlying t, x with
    | some (.struct fields), .pointer (some a) => (fields[k]?).bind fun fd => (Go.AM.sizeOf P fd.type).bind fun n => cond (Nat.beq n 0) none (some (ANext.value (.pointer (some ⟨a.block, a.off + fd.offset, none⟩)) h))
    | _, _ => none) = some n) : Out e B0 w n ((do pure (Next.value (← Instr.fieldAt t x' k)) : Sem Next).run P w) := by
  split at hx
  case h_2 => cases hx
  rename_i fields a hu
  obtain ⟨b, o, sp⟩ := a
  obtain ⟨rfl, c, d, rfl, hl⟩ := hV.ptr_inv
  obtain ⟨fd, hfd, hx⟩ := opt_bind_some hx
  obtain ⟨sz, hsz, hx⟩ := opt_bind_some hx
  by_cases h0 : sz = 0
  · rw [h0] at hx; cases hx
  · simp only [nbeq, h0, decide_false, cond_false, Option.some.injEq] at hx
    subst hx
    have hp : VRel e (.pointer (some ⟨b, o + fd.offset, none⟩)) (.pointer (some ⟨c, d + (o + fd.offset), none⟩)) := .ptr hl
    refine Out.value0 H ?_ hp
    simp [Instr.fieldAt, run_underlying hu, hfd, Instr.sureAddr, fieldPlace, sizeOf_run hsz, h0, Addr.add_lit, Nat.add_assoc]

theorem sim_indexAddr (H : HRel e B0 h w) {t : TypeId} {x x' i i' : Value} {n : ANext} (hV : VRel e x x') (hI : VRel e i i')
    (hx : (match (generalizing := false) P.underlying t, x, i with
    | some (.array len el), .pointer (some a), .int _ i => if 0 ≤ i ∧ i < len then (Go.AM.sizeOf P el).map fun n => ANext.value (.pointer (some ⟨a.block, a.off + i.toNat * n, none⟩)) h else none
    | some (.slice el), .slice (some a) len _, .int _ i => if 0 ≤ i ∧ i < len then (Go.AM.sizeOf P el).map fun n => .value (.pointer (some ⟨a.block, a.off + i.toNat * n, none⟩)) h else none
    | _, _, _ => none) = some n) : Out e B0 w n ((do pure (Next.value (← Instr.indexAt t x' i')) : Sem Next).run P w) := by
  split at hx
  case h_3 => cases hx
  · rename_i len el a k i hu
    obtain ⟨b, o, sp⟩ := a
    obtain ⟨rfl, c, d, rfl, hl⟩ := hV.ptr_inv
    cases hI
    split at hx
    case isFalse => cases hx
    rename_i hi
    obtain ⟨sz, hsz, rfl⟩ := opt_map_some hx
    have hp : VRel e (.pointer (some ⟨b, o + i.toNat * sz, none⟩)) (.pointer (some ⟨c, d + (o + i.toNat * sz), none⟩)) := .ptr hl
    refine Out.value0 H ?_ hp
    simp [Instr.indexAt, run_underlying hu, asIntOf, Instr.sureAddr, hi, sizeOf_run hsz, Addr.add_lit, Nat.add_assoc]
  · rename_i el a len cap k i hu
    cases hI
    split at hx
    case isFalse => cases hx
    rename_i hi
    obtain ⟨sz, hsz, rfl⟩ := opt_map_some hx
    cases hV with
    | @sl b c d o _ _ cap' hl hc hs =>
      have hp : VRel e (.pointer (some ⟨b, o + i.toNat * sz, none⟩)) (.pointer (some ⟨c, d + (o + i.toNat * sz), none⟩)) := .ptr hl
      refine Out.value0 H ?_ hp
      simp [Instr.indexAt, run_underlying hu, asIntOf, hi, sizeOf_run hsz, Addr.add_lit, Nat.add_assoc]
    | slend a' _ => simp at hi; omega

theorem sim_typeAssert (H : HRel e B0 h w) {x x' : Value} {s t : TypeId} {ok : Bool} {n : ANext} (hV : VRel e x x')
    (hx : (match (generalizing := false) P.underlying t, x with
    | some (.interface _), _ => none
    | some _, .nilIface => cond ok ((zeroVal P t).map fun z => ANext.value (.tuple #[z, .bool false]) h) none
    | some _, .iface u v => if u = t then some (.value (cond ok (.tuple #[v, .bool true]) v) h) else cond ok ((zeroVal P t).map fun z => .value (.tuple #[z, .bool false]) h) none
    | _, _ => none) = some n) : Out e B0 w n ((do pure (Next.value (← Instr.typeAssert x' s t ok)) : Sem Next).run P w) := by
  split at hx
  case h_1 => cases hx
  case h_4 => cases hx
  · rename_i d hni hu
    cases hV
    obtain ⟨rfl, hx⟩ := cond_some hx
    obtain ⟨z, hz, rfl⟩ := opt_map_some hx
    obtain ⟨hzr, hzf⟩ := zeroVal_run (w := w) hz
    have hv : VRel e (.tuple #[z, .bool false]) (.tuple #[z, .bool false]) := .tuple' (VsRel.cons (flat_rel e z hzf) (VsRel.one (.bool _)))
    refine Out.value0 H ?_ hv
    cases d <;> first | exact absurd rfl (hni _) | simp [Instr.typeAssert, run_underlying hu, hzr]
  · rename_i d u v hni hu
    cases hV with
    | @iface _ _ v' hv =>
      by_cases hut : u = t
      · rw [if_pos hut] at hx
        cases hx
        cases ok with
        | true =>
          have hv2 : VRel e (.tuple #[v, .bool true]) (.tuple #[v', .bool true]) := .tuple' (VsRel.cons hv (VsRel.one (.bool _)))
          refine Out.value0 H ?_ hv2
          cases d <;> first | exact absurd rfl (hni _) | simp [Instr.typeAssert, run_underlying hu, hut]
        | false =>
          refine Out.value0 H ?_ hv
          cases d <;> first | exact absurd rfl (hni _) | simp [Instr.typeAssert, run_underlying hu, hut]
      · rw [if_neg hut] at hx
        obtain ⟨rfl, hx⟩ := cond_some hx
        obtain ⟨z, hz, rfl⟩ := opt_map_some hx
        obtain ⟨hzr, hzf⟩ := zeroVal_run (w := w) hz
        have hv : VRel e (.tuple #[z, .bool false]) (.tuple #[z, .bool false]) := .tuple' (VsRel.cons (flat_rel e z hzf) (VsRel.one (.bool _)))
        refine Out.value0 H ?_ hv
        cases d <;> first | exact absurd rfl (hni _) | simp [Instr.typeAssert, run_underlying hu, hut, hzr]

theorem sim_extract (H : HRel e B0 h w) {x x' : Value} {i : Nat} {n : ANext} (hV : VRel e x x')
    (hx : (match (generalizing := false) x with | .tuple vs => (vs.toList[i]?).map fun v => ANext.value v h | _ => none) = some n) : Out e B0 w n ((do pure (Next.value (← Instr.extract x' i)) : Sem Next).run P w) := by
  split at hx
  case h_2 => cases hx
  rename_i vs
  obtain ⟨vs', rfl, hvs⟩ := hV.tuple_inv
  obtain ⟨v, hv, rfl⟩ := opt_map_some hx
  obtain ⟨v', h1, h2⟩ := hvs.get hv
  have h1' : vs'[i]? = some v' := by simpa using h1
  exact Out.value0 H (by simp [Instr.extract, h1']) h2

theorem sim_makeInterface (H : HRel e B0 h w) {t : TypeId} {x x' : Value} {n : ANext} (hV : VRel e x x')
    (hx : (match (generalizing := false) P.underlying t with | some (.interface _) => none | some _ => some (ANext.value (.iface t x) h) | none => none) = some n) :
    Out e B0 w n ((do pure (Next.value (← Instr.makeInterface t x')) : Sem Next).run P w) := by
  split at hx
  case h_1 => cases hx
  case h_3 => cases hx
  rename_i d hni hu
  cases hx
  refine Out.value0 H ?_ (.iface t hV)
  cases d <;> first | exact absurd rfl (hni _) | simp [Instr.makeInterface, run_underlying hu]

theorem sim_unOp (H : HRel e B0 h w) {op : UnOp} {x x' v : Value} (hV : VRel e x x') (hx : unA op x = some v) :
    Out e B0 w (.value v h) ((do pure (Next.value (← Op.unary op x')) : Sem Next).run P w) := by
  unfold unA at hx
  split at hx
  · cases hV
    simp only [intOp, Option.some.injEq] at hx
    subst hx
    exact Out.value0 H (by simp [Op.unary, Op.intArith]) (.int _ _)
  · cases hV
    simp only [intOp, Option.some.injEq] at hx
    subst hx
    exact Out.value0 H (by simp [Op.unary, Op.intBits]) (.int _ _)
  · cases hV
    cases hx
    exact Out.value0 H (by simp [Op.unary]) (.bool _)
  · cases hx

theorem bytesOfCells_ints : ∀ {cs : List Value} {l : List UInt8}, bytesOfCells cs = some l → ∃ ns : List Int, cs = ns.map (Value.int .u8) ∧ l = ns.map fun n => UInt8.ofNat n.toNat
  | [], l, h => by simp [bytesOfCells] at h; subst h; exact ⟨[], rfl, rfl⟩
  | v :: cs, l, h => by
    cases v <;> try (simp [bytesOfCells] at h; done)
    rename_i k n
    cases k <;> try (simp [bytesOfCells] at h; done)
    simp only [bytesOfCells] at h
    obtain ⟨l', hl', rfl⟩ := opt_map_some h
    obtain ⟨ns, rfl, rfl⟩ := bytesOfCells_ints hl'
    exact ⟨n :: ns, rfl, rfl⟩

theorem VsRel.same_ints {k : IntKind} (ns : List Int) : VsRel e (ns.map (Value.int k)) (ns.map (Value.int k)) :=
  ⟨rfl, fun i x y hx hy => by
    rw [hx] at hy; cases hy
    simp only [List.getElem?_map] at hx
    obtain ⟨z, _, rfl⟩ := opt_map_some hx
    exact .int _ _⟩

theorem ints_rel {ns : List Int} {k : IntKind} : ∀ {ys : List Value}, VsRel e (ns.map (Value.int k)) ys → ys = ns.map (Value.int k) := by
  induction ns with
  | nil => intro ys h; exact h.nil_left
  | cons n ns ih =>
    intro ys h
    obtain ⟨y, ys', rfl, hy, hr⟩ := VsRel.cons_left h
    cases hy
    rw [ih hr]; rfl

theorem foldl_push : ∀ (l : List UInt8) (acc : ByteArray), (l.foldl (fun r b => r.push b) acc).data.toList = acc.data.toList ++ l
  | [], acc => by simp
  | b :: l, acc => by
    rw [List.foldl_cons, foldl_push l]
    simp [ByteArray.push]

theorem sim_conv (H : HRel e B0 h w) {s t : TypeId} {x x' v : Value} (hV : VRel e x x') (hx : convA P h s t x = some v) :
    Out e B0 w (.value v h) ((do pure (Next.value (← convert s t x')) : Sem Next).run P w) := by
  unfold convA at hx
  split at hx
  · rename_i d k k' n hs ht
    cases hV; cases hx
    exact Out.value0 H (by simp [convert, run_underlying hs, run_underlying ht, Conv.intToInt]) (.int _ _)
  · rename_i d str hs ht
    cases hV; cases hx
    refine Out.value0 H ?_ (.string _)
    cases d <;> simp [convert, run_underlying hs, run_underlying ht]
  · rename_i d k n hs ht
    cases hV; cases hx
    refine Out.value0 H ?_ (.string _)
    cases d <;> simp [convert, run_underlying hs, run_underlying ht, Conv.intToString]
  · rename_i el a len cap hs ht
    split at hx
    case h_2 => cases hx
    rename_i he
    split at hx
    · cases hx
      cases hV
      refine Out.value0 H ?_ (.string _)
      rw [run_convert_bytes_string w s t el none len cap hs he ht]
      simp [Conv.bytesToString]
    · rename_i a
      by_cases h0 : len = 0
      · subst h0
        simp only [nbeq, decide_true, cond_true, Option.some.injEq] at hx
        subst hx
        have hgo : ∀ a' cap', Out e B0 w (.value (.string .empty) h) ((do pure (Next.value (← convert s t (.slice (some a') 0 cap'))) : Sem Next).run P w) := by
          intro a' cap'
          refine Out.value0 H ?_ (.string _)
          rw [run_convert_bytes_string w s t el (some a') 0 cap' hs he ht]
          rw [run_bytesToString w a' 0 cap' [] (by simp [loadCells, loadCellsFrom])]
          rfl
        cases hV with
        | sl hl hc hs => exact hgo _ _
        | slend a' _ => exact hgo _ _
      · simp only [nbeq, h0, decide_false, cond_false] at hx
        obtain ⟨l, hl, rfl⟩ := opt_map_some hx
        obtain ⟨cs, hcs, hb⟩ := opt_bind_some hl
        cases hV with
        | slend a' _ => omega
        | @sl b c d o _ _ cap' hloc hc hss =>
          obtain ⟨cs', hr, hlen, hcell⟩ := H.cellsAt hloc hcs
          obtain ⟨ns, rfl, rfl⟩ := bytesOfCells_ints hb
          have := ints_rel hr
          subst this
          have hlc := run_loadCells_list (P := P) w ⟨c, d + o, none⟩ _ hcell
          rw [hlen] at hlc
          refine Out.value0 H ?_ (.string _)
          rw [run_convert_bytes_string w s t el _ len cap' hs he ht, run_bytesToString w _ len cap' ns hlc]
          congr 2
          have hf := foldl_push (ns.map fun n => UInt8.ofNat n.toNat) ByteArray.empty
          rw [List.foldl_map] at hf
          generalize List.foldl (fun r n => r.push (UInt8.ofNat n.toNat)) ByteArray.empty ns = z at *
          obtain ⟨⟨zz⟩⟩ := z
          simp at hf
          rw [hf]
  · cases hx
end
end Go.AM

namespace Go.AM
open Go Go.RowKit

section
variable {P : Program} {X : FuncId → List Value → Option Value} {e : Env} {B0 : Nat} {h : AH} {w : World} {ρ ρ' : Operand → Value}

theorem bytesEq_eq : ∀ (a b : List UInt8), bytesEq a b = (a == b)
  | [], [] => rfl
  | [], b :: y => rfl
  | a :: x, [] => rfl
  | a :: x, b :: y => by
    simp only [bytesEq, nbeq]
    by_cases h : a = b
    · subst h; simp [bytesEq_eq x y]
    · have : a.toNat ≠ b.toNat := fun hx => h (UInt8.toNat_inj.1 hx)
      simp [this, h]

theorem eqFs_run {q : TypeId → Value → Value → Option Bool} {D : Nat} (hq : ∀ t x y b x' y', q t x y = some b → VRel e x x' → VRel e y y' → (Op.equalIn D t x' y').run P w = .ok b w) :
    ∀ (fs : List Field) (xs ys : List Value) (xs' ys' : Array Value) (b : Bool), VsRel e xs xs'.toList → VsRel e ys ys'.toList → eqFs P q xs ys fs = some b → (Op.eqFields D xs' ys' fs).run P w = .ok b w
  | [], xs, ys, xs', ys', b, _, _, hb => by
    simp only [eqFs, Option.some.injEq] at hb
    subst hb
    simp [Op.eqFields]
  | f :: fs, xs, ys, xs', ys', b, hx, hy, hb => by
    simp only [eqFs] at hb
    split at hb
    · cases hb
    · rename_i hn
      split at hb
      · rename_i a c ha hc
        obtain ⟨a', ra, va⟩ := part_sim (w := w) ha hx
        obtain ⟨c', rc, vc⟩ := part_sim (w := w) hc hy
        split at hb
        · rename_i hqq
          have := hq _ _ _ _ _ _ hqq va vc
          simp [Op.eqFields, hn, ra, rc, this, eqFs_run hq fs xs ys xs' ys' b hx hy hb]
        · rename_i hqq
          have := hq _ _ _ _ _ _ hqq va vc
          cases hb
          simp [Op.eqFields, hn, ra, rc, this]
        · cases hb
      · cases hb

theorem eqIs_run {q : Value → Value → Option Bool} {D : Nat} {el : TypeId} {c : Nat} (hq : ∀ x y b x' y', q x y = some b → VRel e x x' → VRel e y y' → (Op.equalIn D el x' y').run P w = .ok b w) :
    ∀ (is : List Nat) (xs ys : List Value) (xs' ys' : Array Value) (b : Bool), VsRel e xs xs'.toList → VsRel e ys ys'.toList → eqIs P q el c xs ys is = some b → (Op.eqItems D el c xs' ys' is).run P w = .ok b w
  | [], xs, ys, xs', ys', b, _, _, hb => by
    simp only [eqIs, Option.some.injEq] at hb
    subst hb
    simp [Op.eqItems]
  | i :: is, xs, ys, xs', ys', b, hx, hy, hb => by
    simp only [eqIs] at hb
    split at hb
    · rename_i a d ha hc
      obtain ⟨a', ra, va⟩ := part_sim (w := w) ha hx
      obtain ⟨c', rc, vc⟩ := part_sim (w := w) hc hy
      split at hb
      · rename_i hqq
        have := hq _ _ _ _ _ hqq va vc
        simp [Op.eqItems, ra, rc, this, eqIs_run hq is xs ys xs' ys' b hx hy hb]
      · rename_i hqq
        have := hq _ _ _ _ _ hqq va vc
        cases hb
        simp [Op.eqItems, ra, rc, this]
      · cases hb
    · cases hb

theorem eqT_run : ∀ (d : Nat) (t : TypeId) (x y : Value) (b : Bool) (x' y' : Value) (D : Nat), d ≤ D → eqT P d t x y = some b → VRel e x x' → VRel e y y' → (Op.equalIn D t x' y').run P w = .ok b w
  | 0, t, x, y, b, x', y', D, _, hb, _, _ => by simp [eqT] at hb
  | d + 1, t, x, y, b, x', y', D, hD, hb, hx, hy => by
    obtain ⟨D, rfl⟩ : ∃ k, D = k + 1 := ⟨D - 1, by omega⟩
    simp only [eqT] at hb
    split at hb <;> try (cases hb; done)
    · rename_i hu; cases hx; cases hy; cases hb; simp [Op.equalIn, run_underlying hu]
    · rename_i hu; cases hx; cases hy
      split at hb
      · rename_i hk; subst hk; cases hb; simp [Op.equalIn, run_underlying hu]
      · cases hb
    · rename_i hu; cases hx; cases hy; cases hb
      rw [run_equalIn_string w D t _ _ hu, bytesEq_eq, ByteArray.toList_eq, ByteArray.toList_eq]
    · rename_i hu; cases hx; cases hy <;> (cases hb; simp [Op.equalIn, run_underlying hu])
    · rename_i hu; cases hx; cases hy; cases hb; simp [Op.equalIn, run_underlying hu]
    · rename_i hu; cases hx; cases hy; cases hb; simp [Op.equalIn, run_underlying hu]
    · rename_i hu; cases hx; cases hy; cases hb; simp [Op.equalIn, run_underlying hu]
    · rename_i hu; cases hx; cases hy; cases hb; simp [Op.equalIn, run_underlying hu]
    · rename_i hu; cases hx; cases hy <;> (cases hb; simp [Op.equalIn, run_underlying hu])
    · rename_i hu; cases hx <;> cases hy <;> (cases hb; simp [Op.equalIn, run_underlying hu])
    · rename_i hu; cases hx; cases hy <;> (cases hb; simp [Op.equalIn, run_underlying hu])
    · rename_i hu; cases hx; cases hy; cases hb; simp [Op.equalIn, run_underlying hu]
    · rename_i hu; cases hx; cases hy; cases hb; simp [Op.equalIn, run_underlying hu]
    · rename_i hu; cases hx; cases hy; cases hb; simp [Op.equalIn, run_underlying hu]
    · rename_i hu; cases hx; cases hy; cases hb; simp [Op.equalIn, run_underlying hu]
    · rename_i _ _ fs xs ys hu
      obtain ⟨xs', rfl, hxs⟩ := hx.agg_inv
      obtain ⟨ys', rfl, hys⟩ := hy.agg_inv
      cases hp : P.stoodInHeld t with
      | true => rw [hp] at hb; cases hb
      | false =>
        rw [hp, cond_false] at hb
        have hfo : P.fieldsOf t = fs := by simp [Program.fieldsOf, hu]
        rw [run_equalIn_struct w D t xs' ys' (by rw [hfo]; exact hu) hp, hfo]
        exact eqFs_run (fun t x y b x' y' h1 h2 h3 => eqT_run d t x y b x' y' D (by omega) h1 h2 h3) _ _ _ _ _ _ hxs hys hb
    · rename_i _ _ n el xs ys hu
      obtain ⟨xs', rfl, hxs⟩ := hx.agg_inv
      obtain ⟨ys', rfl, hys⟩ := hy.agg_inv
      split at hb
      · rename_i c hc
        obtain ⟨i, hi, his⟩ := info_of_size hc
        rw [run_equalIn_array w D xs' ys' hu hi]
        have hcl : P.cellsOf el = c := by simp [Program.cellsOf, hi, his]
        rw [hcl]
        exact eqIs_run (fun x y b x' y' h1 h2 h3 => eqT_run d el x y b x' y' D (by omega) h1 h2 h3) _ _ _ _ _ _ hxs hys hb
      · cases hb

theorem eqGuard_run {op : BinOp} {t : TypeId} {p q : Operand} {x y x' y' : Value} (hg : guardOK P t p q x y = true) (hx : VRel e x x') (hy : VRel e y y') : (eqGuard op t p q x' y').run P w = .ok () w := by
  cases hx with
  | nilIface =>
    cases hy with
    | nilIface =>
      simp only [guardOK, Bool.or_eq_true] at hg
      rcases hg with hg | hg
      · cases p <;> first | (simp [isC] at hg; done) | (rw [eqGuard_nil_constL]; rfl)
      · cases q <;> first | (simp [isC] at hg; done) | (rw [eqGuard_nil_constR]; rfl)
    | _ => cases op <;> rfl
  | @agg a a' ha hA =>
    cases hy with
    | agg hb hB =>
      have hm : P.eqGuardType P.depth t = false := by simpa [guardOK] using hg
      exact run_eqGuard_agg w op t p q _ _ hm
    | _ => cases op <;> rfl
  | _ => cases op <;> cases hy <;> rfl

theorem sim_binOp (H : HRel e B0 h w) {op : BinOp} {t : TypeId} {p q : Operand} {x y x' y' v : Value} (hx : VRel e x x') (hy : VRel e y y') (hb : binA P op t p q x y = some v) :
    Out e B0 w (.value v h) ((do pure (Next.value (← (do eqGuard op t p q x' y'; binOp op t x' y' : Sem Value))) : Sem Next).run P w) := by
  unfold binA at hb
  split at hb
  · rename_i _ _ k a k' b
    cases hx; cases hy
    split at hb
    · split at hb
      · cases hb
      · rename_i hneg
        cases hb
        exact Out.value0 H (by simp [eqGuard_at_int, binOp_shl, Op.shift, hneg]) (.int _ _)
    · split at hb
      · cases hb
      · rename_i hneg
        cases hb
        exact Out.value0 H (by simp [eqGuard_at_int, binOp_shr, Op.shift, hneg]) (.int _ _)
    · rename_i hn1 hn2
      split at hb
      case isFalse => cases hb
      rename_i hk
      subst hk
      cases op <;> simp only [intOp] at hb <;> try (cases hb; done)
      case add => cases hb; exact Out.value0 H (by simp [eqGuard_at_int, binOp_add, Op.intArith]) (.int _ _)
      case sub => cases hb; exact Out.value0 H (by simp [eqGuard_at_int, binOp_sub, Op.intArith]) (.int _ _)
      case mul => cases hb; exact Out.value0 H (by simp [eqGuard_at_int, binOp_mul, Op.intArith]) (.int _ _)
      case quo =>
        split at hb
        · cases hb
        · rename_i h0
          cases hb; exact Out.value0 H (by simp [eqGuard_at_int, binOp_quo, Op.intDiv, h0]) (.int _ _)
      case rem =>
        split at hb
        · cases hb
        · rename_i h0
          cases hb; exact Out.value0 H (by simp [eqGuard_at_int, binOp_rem, Op.intDiv, h0]) (.int _ _)
      case and => cases hb; exact Out.value0 H (by simp [eqGuard_at_int, binOp_and, Op.intBits]) (.int _ _)
      case or => cases hb; exact Out.value0 H (by simp [eqGuard_at_int, binOp_or, Op.intBits]) (.int _ _)
      case xor => cases hb; exact Out.value0 H (by simp [eqGuard_at_int, binOp_xor, Op.intBits]) (.int _ _)
      case andNot => cases hb; exact Out.value0 H (by simp [eqGuard_at_int, binOp_andNot, Op.intBits]) (.int _ _)
      case eql => cases hb; exact Out.value0 H (by simp [eqGuard_at_int, binOp_eql]) (.bool _)
      case neq => cases hb; exact Out.value0 H (by simp [eqGuard_at_int, binOp_neq]) (.bool _)
      case lss => cases hb; exact Out.value0 H (by simp [eqGuard_at_int, binOp_lss]) (.bool _)
      case leq => cases hb; exact Out.value0 H (by simp [eqGuard_at_int, binOp_leq]) (.bool _)
      case gtr => cases hb; exact Out.value0 H (by simp [eqGuard_at_int, binOp_gtr]) (.bool _)
      case geq => cases hb; exact Out.value0 H (by simp [eqGuard_at_int, binOp_geq]) (.bool _)
  · rename_i _ _ a b
    cases hx; cases hy
    split at hb <;> try (cases hb; done)
    · cases hb
      refine Out.value0 H ?_ (.bool _)
      simp [eqGuard_at_string, binOp, Op.stringOp, bytesEq_eq, ByteArray.toList_eq]
    · cases hb
      refine Out.value0 H ?_ (.bool _)
      simp [eqGuard_at_string, binOp, Op.stringOp, bytesEq_eq, ByteArray.toList_eq]
    · obtain ⟨hsz, hb⟩ := cond_some hb
      cases hb
      simp only [nble, decide_eq_true_eq] at hsz
      have hcat : a ++ b = ⟨(a.data.toList ++ b.data.toList).toArray⟩ := by
        apply ByteArray.ext
        rw [ByteArray.data_append]
        apply Array.ext'
        simp
      refine Out.value0 H ?_ (.string _)
      have hno : ¬ ((9223372036854775807 : Int) < (a.size : Int) + (b.size : Int)) := by omega
      simp [eqGuard_at_string, binOp, Op.stringOp, hno, hcat]
  · split at hb <;> try (cases hb; done)
    · rename_i hni hns _
      obtain ⟨hg, hb⟩ := cond_some hb
      obtain ⟨b, hb1, rfl⟩ := opt_map_some hb
      have hr := eqT_run (w := w) 8 t _ _ b _ _ 10000 (by omega) hb1 hx hy
      refine Out.value0 H ?_ (.bool _)
      have hbin : ∀ W, (binOp .eql t x' y').run P W = ((Op.equalIn 10000 t x' y').run P W).andThen fun b w' => .ok (.bool b) w' := by
        intro W
        cases hx <;> cases hy <;> first | exact absurd rfl (hni _ _ _ _ rfl) | exact absurd rfl (hns _ _ rfl) | (simp [binOp, Op.equal, Op.maxDepth])
      simp [eqGuard_run hg hx hy, hbin, hr]
    · rename_i hni hns _
      obtain ⟨hg, hb⟩ := cond_some hb
      obtain ⟨b, hb1, rfl⟩ := opt_map_some hb
      have hr := eqT_run (w := w) 8 t _ _ b _ _ 10000 (by omega) hb1 hx hy
      refine Out.value0 H ?_ (.bool _)
      have hbin : ∀ W, (binOp .neq t x' y').run P W = ((Op.equalIn 10000 t x' y').run P W).andThen fun b w' => .ok (.bool (!b)) w' := by
        intro W
        cases hx <;> cases hy <;> first | exact absurd rfl (hni _ _ _ _ rfl) | exact absurd rfl (hns _ _ rfl) | (simp [binOp, Op.equal, Op.maxDepth])
      simp [eqGuard_run hg hx hy, hbin, hr]
end
end Go.AM

namespace Go.AM
open Go Go.RowKit

section
variable {P : Program} {X : FuncId → List Value → Option Value} {e : Env} {B0 : Nat} {h : AH} {w : World} {ρ ρ' : Operand → Value}

/-! ### slices -/
def OV (e : Env) : Option Value → Option Value → Prop
  | none, none => True
  | some v, some v' => VRel e v v'
  | _, _ => False

theorem OV.map {o : Option Operand} (hρ : ∀ x ∈ (o : Option Operand), VRel e (ρ x) (ρ' x)) : OV e (optMap ρ o) (o.map ρ') := by
  cases o with
  | none => trivial
  | some x => exact hρ x rfl

theorem bound_sim {v v' : Option Value} {dflt most x : Nat} (hb : bound v dflt most = some x) (hv : OV e v v') :
    (v = none ∧ v' = none ∧ x = dflt) ∨ ∃ k i, v = some (.int k i) ∧ v' = some (.int k i) ∧ 0 ≤ i ∧ i ≤ most ∧ x = i.toNat := by
  unfold bound at hb
  split at hb
  · cases v' with
    | none => cases hb; exact .inl ⟨rfl, rfl, rfl⟩
    | some _ => exact hv.elim
  · rename_i k i
    cases v' with
    | none => exact hv.elim
    | some y =>
      have hv : VRel e (.int k i) y := hv
      cases hv
      split at hb
      · rename_i hi
        cases hb
        exact .inr ⟨k, i, rfl, rfl, hi.1, hi.2, rfl⟩
      · cases hb
  · cases hb

theorem bounds_sim {isSlice : Bool} {len cap cap' l k m : Nat} {lo lo' hi hi' mx mx' : Option Value} (hb : boundsA len cap lo hi mx = some (l, k, m)) (hc : cap ≤ cap') (hlo : OV e lo lo') (hhi : OV e hi hi') (hmx : OV e mx mx') :
    (Instr.sliceBounds isSlice len cap' lo' hi' mx').run P w = .ok (l, k, if mx.isSome then m else cap') w ∧ l ≤ k ∧ k ≤ m ∧ m ≤ cap ∧ (mx.isSome = false → m = cap) := by
  have hb2 : ((bound mx cap cap).bind fun m => (bound hi len m).bind fun h => (bound lo 0 h).bind fun l => cond (Nat.ble h m) (some (l, h, m)) none) = some (l, k, m) ∧ (hi = none → mx = none) := by
    unfold boundsA at hb
    split at hb
    · cases hb
    · rename_i hne
      refine ⟨hb, fun h1 => ?_⟩
      cases mx with
      | none => rfl
      | some y => exact absurd rfl (hne y h1)
  obtain ⟨hb, himp⟩ := hb2
  obtain ⟨m1, hm1, hb⟩ := opt_bind_some hb
  obtain ⟨k1, hk1, hb⟩ := opt_bind_some hb
  obtain ⟨l1, hl1, hb⟩ := opt_bind_some hb
  obtain ⟨hkm, hb⟩ := cond_some hb
  cases hb
  simp only [nble, decide_eq_true_eq] at hkm
  rcases bound_sim hm1 hmx with ⟨rfl, rfl, rfl⟩ | ⟨km, im, rfl, rfl, hm0, hmm, rfl⟩
  · rcases bound_sim hk1 hhi with ⟨rfl, rfl, rfl⟩ | ⟨kk, ik, rfl, rfl, hk0, hkk, rfl⟩
    · rcases bound_sim hl1 hlo with ⟨rfl, rfl, rfl⟩ | ⟨kl, il, rfl, rfl, hl0, hll, rfl⟩
      · exact ⟨by simp [Instr.sliceBounds], by omega, hkm, Nat.le_refl _, fun _ => rfl⟩
      · refine ⟨?_, by omega, hkm, Nat.le_refl _, fun _ => rfl⟩
        simp [Instr.sliceBounds, run_sliceBound w kl il _ _ hl0 hll]
    · have hkc : ik ≤ (cap' : Int) := by omega
      rcases bound_sim hl1 hlo with ⟨rfl, rfl, rfl⟩ | ⟨kl, il, rfl, rfl, hl0, hll, rfl⟩
      · refine ⟨?_, by omega, hkm, Nat.le_refl _, fun _ => rfl⟩
        cases isSlice <;> simp [Instr.sliceBounds, run_sliceBound w kk ik _ _ hk0 hkc]
      · refine ⟨?_, by omega, hkm, Nat.le_refl _, fun _ => rfl⟩
        cases isSlice <;> simp [Instr.sliceBounds, run_sliceBound w kk ik _ _ hk0 hkc, run_sliceBound w kl il _ _ hl0 hll]
  · have hmc : im ≤ (cap' : Int) := by omega
    rcases bound_sim hk1 hhi with ⟨rfl, rfl, rfl⟩ | ⟨kk, ik, rfl, rfl, hk0, hkk, rfl⟩
    · cases himp rfl
    · rcases bound_sim hl1 hlo with ⟨rfl, rfl, rfl⟩ | ⟨kl, il, rfl, rfl, hl0, hll, rfl⟩
      · refine ⟨?_, by omega, hkm, by omega, fun h => by cases h⟩
        cases isSlice <;> simp [Instr.sliceBounds, run_sliceBound w km im _ _ hm0 hmc, run_sliceBound w kk ik _ _ hk0 hkk]
      · refine ⟨?_, by omega, hkm, by omega, fun h => by cases h⟩
        cases isSlice <;> simp [Instr.sliceBounds, run_sliceBound w km im _ _ hm0 hmc, run_sliceBound w kk ik _ _ hk0 hkk, run_sliceBound w kl il _ _ hl0 hll]

theorem cutOK_es (H : HRel e B0 h w) {b c d size l : Nat} (hl : e.loc b = some (c, d)) (hk : h.cutOK b size l = true) : l = 0 ∨ e.es b = 0 ∨ e.es b = size := by
  unfold AH.cutOK at hk
  by_cases h0 : l = 0
  · exact .inl h0
  · simp only [nbeq, h0, decide_false, cond_false] at hk
    split at hk
    · rename_i cs sz es fam delta hg
      have R := H.row hl hg
      rw [R.es]
      simp only [Bool.or_eq_true, decide_eq_true_eq] at hk
      exact .inr hk
    · cases hk

theorem sim_slice (H : HRel e B0 h w) {t : TypeId} {x x' v : Value} {lo lo' hi hi' mx mx' : Option Value} (hV : VRel e x x') (hlo : OV e lo lo') (hhi : OV e hi hi') (hmx : OV e mx mx') (hx : sliceA P h t x lo hi mx = some v) :
    Out e B0 w (.value v h) ((do pure (Next.value (← Instr.sliceAt t x' lo' hi' mx')) : Sem Next).run P w) := by
  unfold sliceA at hx
  split at hx
  · rename_i s hu
    cases hV
    split at hx
    · cases hx
    · cases mx' with
      | some _ => exact hmx.elim
      | none =>
        obtain ⟨⟨l, k, m⟩, hb, rfl⟩ := opt_map_some hx
        obtain ⟨hr, h1, h2, h3, _⟩ := bounds_sim (P := P) (w := w) (isSlice := false) hb (Nat.le_refl _) hlo hhi (mx := none) (mx' := none) trivial
        have hst : s.extract l k = ⟨((s.data.toList.drop l).take (k - l)).toArray⟩ := by
          apply ByteArray.ext
          rw [ByteArray.data_extract]
          apply Array.ext'
          rw [Array.toList_extract]
          try simp [List.extract_eq_take_drop]
        refine Out.value0 H ?_ (.string _)
        simp only [Option.isSome_none, Bool.false_eq_true, if_false] at hr
        simp [Instr.sliceAt, Instr.slice, run_underlying hu, hr, hst]
  · rename_i el a len cap hu
    obtain ⟨size, hsz, hx⟩ := opt_bind_some hx
    obtain ⟨⟨l, k, m⟩, hb, hx⟩ := opt_bind_some hx
    have hrun : ∀ (a' : Option Addr) (cap' : Nat), cap ≤ cap' → (Instr.sliceAt t (.slice a' len cap') lo' hi' mx').run P w =
        .ok (.slice (if (if mx.isSome then m else cap') = l then a' else a'.map (·.add (l * size))) (k - l) ((if mx.isSome then m else cap') - l)) w := by
      intro a' cap' hc
      obtain ⟨hr, _⟩ := bounds_sim (P := P) (w := w) (isSlice := true) hb hc hlo hhi hmx
      simp [Instr.sliceAt, Instr.slice, run_underlying hu, hr, sizeOf_run hsz]
    obtain ⟨_, h1, h2, h3, h4⟩ := bounds_sim (P := P) (w := w) (isSlice := true) hb (Nat.le_refl _) hlo hhi hmx
    have hm0 : mx.isSome = false ∨ mx.isSome = true := by cases mx.isSome <;> simp
    cases a with
    | none =>
      cases hx
      cases hV
      have hmm : (if mx.isSome then m else cap) = m := by
        rcases hm0 with hm | hm
        · rw [hm, h4 hm]; rfl
        · rw [hm]; rfl
      refine Out.value0 H (hrun none cap (Nat.le_refl _)) ?_
      rw [hmm]
      have : (if m = l then (none : Option Addr) else Option.map (fun (x : Addr) => x.add (l * size)) none) = none := by split <;> rfl
      rw [this]
      exact .slnil _ _
    | some a =>
      by_cases hc0 : cap = 0
      · subst hc0
        simp only [nbeq, decide_true, cond_true] at hx
        obtain ⟨hmz, hx⟩ := cond_some hx
        simp only [decide_eq_true_eq] at hmz
        cases hx
        have hl0 : l = 0 := by omega
        have hk0 : k = 0 := by omega
        cases hV with
        | slend a' ha =>
          refine Out.value0 H (hrun (some a') 0 (Nat.le_refl _)) ?_
          have : ((if mx.isSome = true then m else 0) - l) = 0 := by split <;> omega
          rw [this, hk0, Nat.zero_sub]
          have h3 : ∀ (c : Prop) [Decidable c], ∃ z, (if c then some a' else Option.map (fun (x : Addr) => x.add (l * size)) (some a')) = some z := fun c _ => by
            by_cases hc : c
            · exact ⟨_, if_pos hc⟩
            · exact ⟨_, if_neg hc⟩
          obtain ⟨z, hz⟩ := h3 ((if mx.isSome = true then m else 0) = l)
          rw [hz]
          exact .slend _ ha
        | @sl b c d o _ _ cap' hl hc hs =>
          refine Out.value0 H (hrun _ cap' hc) ?_
          subst hl0; subst hk0; subst hmz
          simp only [Nat.zero_mul, Nat.sub_zero]
          have hadd : (⟨c, d + o, none⟩ : Addr).add 0 = ⟨c, d + o, none⟩ := by rw [Addr.add_lit]; simp
          simp only [Option.map_some, hadd, ite_self]
          split
          · exact .sl hl (Nat.le_refl _) (.inl rfl)
          · exact .sl hl hc hs
      · simp only [nbeq, hc0, decide_false, cond_false] at hx
        cases hV with
        | slend _ _ => omega
        | @sl b c d o _ _ cap' hl hc hs =>
          cases hq : (mx.isSome && decide (m = l)) with
          | true =>
            rw [hq, cond_true] at hx
            cases hx
            simp only [Bool.and_eq_true, decide_eq_true_eq] at hq
            refine Out.value0 H (hrun _ cap' hc) ?_
            have : k - l = 0 := by omega
            simp only [hq.1, if_true, hq.2, Nat.sub_self, this]
            exact .slend _ (.inl rfl)
          | false =>
            rw [hq, cond_false] at hx
            obtain ⟨hcut, hx⟩ := cond_some hx
            cases hx
            have hcut := cutOK_es H hl hcut
            refine Out.value0 H (hrun _ cap' hc) ?_
            rcases hm0 with hm | hm
            · simp only [hm, Bool.false_eq_true, if_false]
              have hmc := h4 hm
              subst hmc
              by_cases hcl : cap' = l
              · have e1 : m - l = 0 := by omega
                have e2 : k - l = 0 := by omega
                simp only [hcl, if_true, Nat.sub_self, e1, e2]
                exact .slend _ (.inr ⟨_, hl⟩)
              · simp only [hcl, if_false, Option.map_some, Addr.add_lit, Nat.add_assoc]
                refine .sl hl (by omega) ?_
                rcases hs with hs | hs | hs
                · exact .inl (by omega)
                · exact .inr (.inl hs)
                · rcases hcut with hcut | hcut | hcut
                  · subst hcut; refine .inr (.inr ?_); simp only [Nat.zero_mul, Nat.add_zero, Nat.sub_zero]; exact hs
                  · exact .inr (.inl hcut)
                  · refine .inr (.inr ?_)
                    rw [hcut] at hs ⊢
                    have : l * size + (cap' - l) * size = cap' * size := by rw [← Nat.add_mul]; congr 1; omega
                    omega
            · simp only [hm, Bool.true_and, decide_eq_false_iff_not] at hq
              simp only [hm, if_true, hq, if_false, Option.map_some, Addr.add_lit, Nat.add_assoc]
              exact .sl hl (Nat.le_refl _) (.inl rfl)
  · rename_i n el a hu
    obtain ⟨b, o, sp⟩ := a
    obtain ⟨rfl, c, d, rfl, hl⟩ := hV.ptr_inv
    obtain ⟨size, hsz, hx⟩ := opt_bind_some hx
    obtain ⟨⟨l, k, m⟩, hb, hx⟩ := opt_bind_some hx
    obtain ⟨hr, h1, h2, h3, h4⟩ := bounds_sim (P := P) (w := w) (isSlice := false) hb (Nat.le_refl _) hlo hhi hmx
    have hmm : (if mx.isSome then m else n) = m := by
      cases hm : mx.isSome
      · rw [h4 hm]; rfl
      · rfl
    rw [hmm] at hr
    have hrun : (Instr.sliceAt t (.pointer (some ⟨c, d + o, none⟩)) lo' hi' mx').run P w = .ok (.slice (some (if m = l then ⟨c, d + o, none⟩ else (⟨c, d + o, none⟩ : Addr).add (l * size))) (k - l) (m - l)) w := by
      simp [Instr.sliceAt, Instr.sureAddr, run_underlying hu, hr, sizeOf_run hsz]
    refine Out.value0 H hrun ?_
    by_cases hml : m = l
    · simp only [nbeq, hml, decide_true, cond_true, Option.some.injEq] at hx
      cases hx
      have : k - l = 0 := by omega
      rw [this, hml, Nat.sub_self]
      exact .slend _ (.inl rfl)
    · simp only [nbeq, hml, decide_false, cond_false, Option.some.injEq] at hx
      cases hx
      simp only [hml, if_false, Addr.add_lit, Nat.add_assoc]
      exact .sl hl (Nat.le_refl _) (.inl rfl)
  · cases hx

theorem sim_makeSlice (H : HRel e B0 h w) {t : TypeId} {x x' y y' : Value} {n : ANext} (hX : VRel e x x') (hY : VRel e y y')
    (hx : (match (generalizing := false) P.underlying t, x, y with
    | some (.slice el), .int _ l, .int _ c =>
      match P.info? el, zeroCells P el with
      | some i, some z => if 0 ≤ l ∧ l ≤ c ∧ c ≤ 1073741824 ∧ c * i.bytes ≤ 1073741824 then
          (h.newRow (List.replicate c.toNat z).flatten (c.toNat * i.size) i.size).map fun (h, b) => ANext.value (.slice (some ⟨b, 0, none⟩) l.toNat c.toNat) h else none
      | _, _ => none
    | _, _, _ => none) = some n) : Out e B0 w n ((do pure (Next.value (← Instr.makeSlice t x' y')) : Sem Next).run P w) := by
  split at hx
  case h_2 => cases hx
  rename_i el kl l kc c hu
  cases hX; cases hY
  split at hx
  case h_2 => cases hx
  rename_i i z hi hz
  split at hx
  case isFalse => cases hx
  rename_i hc
  obtain ⟨h0, hlc, hcm, hcb⟩ := hc
  obtain ⟨⟨h1, b⟩, hn, rfl⟩ := opt_map_some hx
  obtain ⟨zv, hzv, rfl⟩ := opt_map_some hz
  obtain ⟨it, hit, hzz⟩ := zeroVal_info hzv
  rw [hi] at hit; cases hit
  have hlen : ((List.replicate c.toNat zv.cells.toList).flatten).length = c.toNat * i.size := by
    unfold AH.newRow at hn
    obtain ⟨hc, _⟩ := cond_some hn
    simp only [Bool.and_eq_true, nblt, nbeq, decide_eq_true_eq] at hc
    exact hc.1.2
  have hrel : VsRel e (List.replicate c.toNat zv.cells.toList).flatten (madeCells zv.cells (c.toNat * i.size)).toList := by
    by_cases hc0 : c.toNat = 0
    · rw [hc0, Nat.zero_mul]; exact ⟨by simp [madeCells], fun i x y hx => by simp at hx⟩
    · have hzs : zv.cells.size = i.size := by
        simp at hlen
        exact Nat.eq_of_mul_eq_mul_left (by omega) hlen
      exact zeros_rel (zeroVal_run (P := P) (w := w) hzv).2 hzs
  have hcb' : (i.bytes : Int) * c ≤ 281474976710656 := by rw [Int.mul_comm]; omega
  have hr := run_make (P := P) w t el i zv hu hi hzz kl kc l c h0 hlc hcb' (by omega)
  obtain ⟨e', hle, H', hloc, hes, hsz, hb⟩ := newRow_sim H hn (madeCells zv.cells (c.toNat * i.size)) el (0, 0) (thawed0 _) (by have := hrel.1; simp at this hlen; simp; omega) (rel_arr hrel)
  have hp : VRel e' (.slice (some ⟨b, 0, none⟩) l.toNat c.toNat) (.slice (some ⟨w.heap.size, 0 + 0, none⟩) l.toNat c.toNat) := .sl hloc (Nat.le_refl _) (.inl rfl)
  exact Out.value hr hle hp H' hb

/-! ### marks -/
theorem HRel.refreeze (H : HRel e B0 h w) {c : Nat} {arr : Array Value} {t : TypeId} {fz fz' : Nat × Nat} (hh : w.heap[c]? = some (.cells arr t fz)) (hth : Thawed arr fz → Thawed arr fz') : HRel e B0 h (putRow w c arr t fz') := by
  have hlt := lt_of_heap hh
  refine ⟨?_, ?_, H.sep, H.one, H.old, H.new, H.famlt, H.famnew, ?_, ?_, H.nx⟩
  · intro b2 c2 d2 cs2 size2 es2 fam2 delta2 hl2 hg2
    have R := H.row hl2 hg2
    obtain ⟨arr2, t2, fz2, hh2, hsz2, hth2, hcell2⟩ := R.cells
    by_cases hc : c2 = c
    · subst hc
      rw [hh] at hh2; cases hh2
      exact ⟨R.fam, R.delta, R.len, R.es, R.length, R.fits, arr, t, fz', by rw [heap_putRow, if_pos ⟨rfl, hlt⟩], hsz2, hth hth2, hcell2⟩
    · exact ⟨R.fam, R.delta, R.len, R.es, R.length, R.fits, arr2, t2, fz2, by rw [heap_putRow, if_neg (by omega)]; exact hh2, hsz2, hth2, hcell2⟩
  · intro b2 c2 d2 o hl2 hg2 ho
    obtain ⟨h1, ⟨o', h2, h3⟩, h4⟩ := H.obj hl2 hg2 ho
    refine ⟨h1, ⟨o', ?_, h3⟩, h4⟩
    rw [heap_putRow]
    by_cases hc : c2 = c
    · subst hc
      rw [hh] at h2; cases h2
      cases o <;> try exact h3.elim
      rename_i ds
      cases ds <;> exact h3.elim
    · rw [if_neg (by omega)]; exact h2
  · intro b2 c2 d2 hl2; rw [size_putRow]; exact H.low hl2
  · rw [size_putRow]; exact H.base

theorem run_markStringish_cells {c o : Nat} {arr : Array Value} {t : TypeId} {lo hi : Nat} (hh : w.heap[c]? = some (.cells arr t (lo, hi))) :
    (markStringish ⟨c, o, none⟩).run P w = .ok () (putRow w c arr t (if lo == hi then (arr.size, arr.size + 1) else (min lo arr.size, max hi (arr.size + 1)))) := by
  have hmod : (w.heap.modify c fun
      | .cells c elem (lo, hi) => .cells c elem (if lo == hi then (arr.size, arr.size + 1) else (min lo arr.size, max hi (arr.size + 1)))
      | o => o) = w.heap.setIfInBounds c (.cells arr t (if lo == hi then (arr.size, arr.size + 1) else (min lo arr.size, max hi (arr.size + 1)))) := by
    apply Array.ext_getElem?
    intro i
    rw [Array.getElem?_setIfInBounds, Array.getElem?_modify]
    by_cases hi : c = i
    · subst hi
      rw [if_pos rfl, if_pos (lt_of_heap hh), if_pos rfl, hh]; rfl
    · rw [if_neg hi, if_neg hi]
  simp only [markStringish, shape, freeze, bind, Sem.bind, Sem.run, World.shape?, hh, World.freeze, putRow]
  rw [if_neg (by decide)]
  exact congrArg (fun hp => Result.ok () { w with heap := hp }) hmod

theorem thawed_mark {arr : Array Value} {lo hi : Nat} (hth : Thawed arr (lo, hi)) : Thawed arr (if lo == hi then (arr.size, arr.size + 1) else (min lo arr.size, max hi (arr.size + 1))) := by
  unfold Thawed at *
  by_cases h : lo = hi
  · subst h; simp
  · have h2 : (lo == hi) = false := by simpa using h
    simp only [h2, Bool.false_eq_true, if_false]
    simp only [h, false_or] at hth
    right; simp only [Nat.le_min]; exact ⟨hth, Nat.le_refl _⟩

theorem sim_sameBytes (H : HRel e B0 h w) {s t el : TypeId} {el' : TypeId} {a : Addr} {len cap : Nat} {x' : Value} (_hs : P.underlying s = some (.slice el')) (ht : P.underlying t = some (.slice el)) (he : P.underlying el = some (.int .u8)) (hst : s = t)
    (hc : 0 < cap) (hlow : 1000 ≤ a.block) (hV : VRel e (.slice (some a) len cap) x') :
    Out e B0 w (.value (.slice (some a) len cap) h) ((do pure (Next.value (← convert s t x')) : Sem Next).run P w) := by
  cases hV with
  | slend _ _ => omega
  | @sl b c d o _ _ cap' hl hcap hss =>
    have hB := (H.low hl).2 hlow
    have hlt := (H.low hl).1
    subst hst
    have hrun : ∀ w', (markStringish ⟨c, d + o, none⟩).run P w = .ok () w' → (convert s s (.slice (some ⟨c, d + o, none⟩) len cap')).run P w = .ok (.slice (some ⟨c, d + o, none⟩) len cap') w' := by
      intro w' hm
      simp [convert, run_underlying ht, run_underlying he, hm]
    cases hh : w.heap[c]? with
    | none => rw [getElem?_pos w.heap c hlt] at hh; cases hh
    | some o' =>
      by_cases hcell : ∃ arr ty fz, o' = .cells arr ty fz
      · obtain ⟨arr, ty, ⟨lo, hi⟩, rfl⟩ := hcell
        exact Out.value (hrun _ (run_markStringish_cells hh)) (Env.le_refl e) (.sl hl hcap hss) (H.refreeze hh thawed_mark) (below_putRow hB _ _ _)
      · have hm : (markStringish ⟨c, d + o, none⟩).run P w = .ok () w := by
          have : w.shape? c = none := by
            unfold World.shape?
            rw [hh]
            cases o' <;> first | rfl | exact absurd ⟨_, _, _, rfl⟩ hcell
          simp [markStringish, shape, Sem.run, this]
        exact Out.value (hrun _ hm) (Env.le_refl e) (.sl hl hcap hss) H (Below.refl _ _)
end
end Go.AM

namespace Go.AM
open Go Go.RowKit

section
variable {P : Program} {X : FuncId → List Value → Option Value} {e : Env} {B0 : Nat} {h : AH} {w : World} {ρ ρ' : Operand → Value}

theorem sim_stringBytes (H : HRel e B0 h w) {s t el : TypeId} {i : TypeInfo} {b : ByteArray} {n : ANext} (hs : P.underlying s = some .string) (ht : P.underlying t = some (.slice el)) (he : P.underlying el = some (.int .u8)) (_hi : P.info? el = some i)
    (hx : cond (Nat.beq i.size 1 && Nat.ble b.size 1073741824) ((h.newRow (b.data.toList.map fun c => .int .u8 c.toNat) b.size 1).map fun (h, r) => ANext.value (.slice (some ⟨r, 0, none⟩) b.size b.size) h) none = some n) :
    Out e B0 w n ((do pure (Next.value (← convert s t (.string b))) : Sem Next).run P w) := by
  obtain ⟨hc, hx⟩ := cond_some hx
  obtain ⟨⟨h1, r⟩, hn, rfl⟩ := opt_map_some hx
  have H1 := H.drew
  generalize hw1 : ({ w with drawn := w.drawn + 1 } : World) = w1 at H1
  have hcap : ∃ cap, (choose (.appendCap b.size 0 el)).run P w = .ok cap w1 ∧ b.size ≤ cap := by
    refine ⟨b.size + w.tape w.drawn (.appendCap b.size 0 el) % (2 ^ 63 - b.size), ?_, Nat.le_add_right _ _⟩
    rw [← hw1]
    rfl
  obtain ⟨cap, hr, hge⟩ := hcap
  generalize harr : (b.data.map fun c => (.int .u8 c.toNat : Value)) ++ Array.replicate (cap - b.size) (.int .u8 0) = arr
  have hbs : b.data.size = b.size := rfl
  have hsz : arr.size = cap := by rw [← harr]; simp; omega
  have hrel : ∀ (i : Nat) (v : Value), (b.data.toList.map fun c => (.int .u8 c.toNat : Value))[i]? = some v → ∃ v', arr[i]? = some v' ∧ VRel e v v' := by
    intro i v hv
    simp only [List.getElem?_map] at hv
    cases hb : b.data.toList[i]? with
    | none => rw [hb] at hv; cases hv
    | some x =>
      rw [hb] at hv
      simp only [Option.map_some, Option.some.injEq] at hv
      subst hv
      refine ⟨_, ?_, .int _ _⟩
      rw [Array.getElem?_toList] at hb
      obtain ⟨hlt, hbe⟩ := Array.getElem?_eq_some_iff.1 hb
      rw [← harr, Array.getElem?_append_left (by simpa using hlt)]
      simp [hb]
  obtain ⟨e', hle, H', hloc, hes, hszz, hb⟩ := newRow_sim H1 hn arr el (0, 0) (thawed0 _) (by omega) hrel
  have hh : ({ w1 with heap := w1.heap.push (.cells arr el (0, 0)) } : World).heap[w1.heap.size]? = some (.cells arr el (0, 0)) := by simp
  have H2 := H'.refreeze hh (fz' := _) thawed_mark
  have hB := H1.base.2.2
  have hb2 : Below B0 w1 (putRow ({ w1 with heap := w1.heap.push (.cells arr el (0, 0)) } : World) w1.heap.size arr el (if (0 : Nat) == 0 then (arr.size, arr.size + 1) else (min 0 arr.size, max 0 (arr.size + 1)))) := hb.trans (below_putRow hB _ _ _)
  have hb3 : Below B0 w w1 := by rw [← hw1]; exact ⟨rfl, rfl, rfl, Nat.le_refl _, fun _ _ => rfl⟩
  have hm := run_markStringish_cells (P := P) (o := 0) hh
  have hrun : (convert s t (.string b)).run P w = .ok (.slice (some ⟨w1.heap.size, 0, none⟩) b.size cap) (putRow ({ w1 with heap := w1.heap.push (.cells arr el (0, 0)) } : World) w1.heap.size arr el (if (0 : Nat) == 0 then (arr.size, arr.size + 1) else (min 0 arr.size, max 0 (arr.size + 1)))) := by
    have hnr : (newRow el ((b.data.map fun c => (.int .u8 c.toNat : Value)) ++ Array.replicate (cap - b.size) (.int .u8 0))).run P w1 = .ok ⟨w1.heap.size, 0, none⟩ { w1 with heap := w1.heap.push (.cells arr el (0, 0)) } := by
      rw [harr]; rfl
    simp only [convert, Sem.run_bind, run_underlying hs, run_underlying ht, run_underlying he, Result.andThen_ok, Conv.stringToBytes, hr, hnr, hm]
    rfl
  have hp : VRel e' (.slice (some ⟨r, 0, none⟩) b.size b.size) (.slice (some ⟨w1.heap.size, 0 + 0, none⟩) b.size cap) := by
    refine .sl hloc hge (.inr (.inr ?_))
    rw [hes, hszz, hsz]; omega
  exact Out.value hrun hle hp H2 (hb3.trans hb2)

/-! ### keys -/
theorem ints_same {a a' : Array Value} (hk : (a.toList.all fun | .int _ _ => true | _ => false) = true) (h : VsRel e a.toList a'.toList) : a' = a := by
  apply Array.ext'
  apply List.ext_getElem?
  intro i
  cases hi : a.toList[i]? with
  | none =>
    rw [List.getElem?_eq_none_iff] at hi ⊢
    rw [← h.1]; exact hi
  | some x =>
    obtain ⟨y, hy, hV⟩ := h.get hi
    rw [hy]
    have := List.all_eq_true.1 hk x (List.mem_of_getElem? hi)
    cases x <;> try (simp at this; done)
    cases hV; rfl

theorem keyBits_same {k k' : Value} (hk : keyBits k = true) (h : VRel e k k') : k' = k := by
  cases h <;> try (simp [keyBits] at hk; done)
  · rfl
  · rfl
  · rename_i a a' hs hA
    rw [ints_same hk (vsRel_arr.2 ⟨hs, hA⟩)]

theorem keyBits_rel {k : Value} (hk : keyBits k = true) : VRel e k k := by
  cases k <;> try (simp [keyBits] at hk; done)
  · exact .int _ _
  · exact .string _
  · rename_i a
    refine .agg' ⟨rfl, fun i x y hx hy => ?_⟩
    rw [hx] at hy; cases hy
    have := List.all_eq_true.1 hk x (List.mem_of_getElem? hx)
    cases x <;> try (simp at this; done)
    exact .int _ _

theorem bytesEq_true {a b : List UInt8} (h : bytesEq a b = true) : a = b := by
  rw [bytesEq_eq] at h; simpa using h

theorem veqs_ints : ∀ {a b : List Value}, (a.all fun | .int _ _ => true | _ => false) = true → veqs a b = true → b = a
  | [], [], _, _ => rfl
  | [], _ :: _, _, h => by simp [veqs] at h
  | _ :: _, [], _, h => by simp [veqs] at h
  | x :: a, y :: b, hk, h => by
    simp only [List.all_cons, Bool.and_eq_true] at hk
    simp only [veqs, Bool.and_eq_true] at h
    rw [veqs_ints hk.2 h.2]
    cases x <;> try (simp at hk; done)
    cases y <;> try (simp [veq] at h; done)
    simp only [veq, Bool.and_eq_true, decide_eq_true_eq] at h
    rw [h.1.1, h.1.2]

theorem veq_key {k x : Value} (hk : keyBits k = true) (h : veq k x = true) : x = k := by
  cases k <;> try (simp [keyBits] at hk; done)
  · cases x <;> try (simp [veq] at h; done)
    simp only [veq, Bool.and_eq_true, decide_eq_true_eq] at h
    rw [h.1, h.2]
  · cases x <;> try (simp [veq] at h; done)
    simp only [veq] at h
    have := bytesEq_true h
    congr 1
    apply ByteArray.ext
    exact (Array.ext' this).symm
  · rename_i a
    cases x <;> try (cases a; simp [veq] at h; done)
    rename_i b
    obtain ⟨a⟩ := a
    obtain ⟨b⟩ := b
    simp only [veq] at h
    rw [veqs_ints hk h]

theorem sameBits_key {k : Value} (hk : keyBits k = true) : Instr.sameBits 10000 k k = true := by
  cases k <;> try (simp [keyBits] at hk; done)
  · simp [Instr.sameBits]
  · rename_i b
    have : (b == b) = true := (MapKept.bytes_beq _ _).2 rfl
    simp [Instr.sameBits, this]
  · rename_i a
    show Instr.sameBits (9999 + 1) _ _ = true
    simp only [Instr.sameBits, Bool.and_eq_true, beq_self_eq_true, true_and]
    rw [List.all_eq_true]
    intro p hp
    have hpq : p.1 = p.2 ∧ p.1 ∈ a.toList := by
      obtain ⟨i, hi⟩ := List.mem_iff_getElem?.1 hp
      rw [List.getElem?_zip_eq_some] at hi
      exact ⟨by have := hi.1.symm.trans hi.2; simpa using this, List.mem_of_getElem? hi.1⟩
    have := List.all_eq_true.1 hk p.1 hpq.2
    obtain ⟨x, y⟩ := p
    obtain ⟨hxy, hm⟩ := hpq
    simp only at hxy hm this ⊢
    subst hxy
    cases x <;> try (simp at this; done)
    simp [Instr.sameBits]

theorem keyStays {k : Value} (hk : keyBits k = true) : (Instr.keyThatStays k k).run P w = .ok k w := by
  simp [Instr.keyThatStays, sameBits_key hk]

theorem eqIs_parts {el : TypeId} {c : Nat} {xs : List Value} {kd : IntKind} (hu : P.underlying el = some (.int kd)) : ∀ (is : List Nat) {q : Bool}, eqIs P (eqT P 2 el) el c xs xs is = some q →
    ∀ i ∈ is, ∃ k z, partOf P el xs (i * c) = some (.int k z)
  | [], _, _, i, hi => by cases hi
  | j :: is, q, hq, i, hi => by
    simp only [eqIs] at hq
    split at hq
    case h_2 => cases hq
    rename_i a b ha hb
    rw [ha] at hb; cases hb
    have hint : ∃ k z, a = .int k z := by
      cases hqq : eqT P 2 el a a with
      | none => rw [hqq] at hq; cases hq
      | some bb =>
        cases a <;> try (simp [eqT, hu] at hqq; done)
        exact ⟨_, _, rfl⟩
    obtain ⟨k, z, rfl⟩ := hint
    have heq : eqT P 2 el (.int k z) (.int k z) = some true := by simp [eqT, hu]
    simp only [heq] at hq
    rcases List.mem_cons.1 hi with rfl | hi
    · exact ⟨k, z, ha⟩
    · exact eqIs_parts hu is hq i hi

theorem eqT_arr {t el : TypeId} {n d : Nat} {x y : Value} {q : Bool} (hu : P.underlying t = some (.array n el)) (hq : eqT P (d + 1) t x y = some q) : ∃ xs ys c, x = .agg xs ∧ y = .agg ys ∧ Go.AM.sizeOf P el = some c ∧ eqIs P (eqT P d el) el c xs.toList ys.toList (List.range n) = some q := by
  simp only [eqT, hu] at hq
  cases x <;> try (simp at hq; done)
  cases y <;> try (simp at hq; done)
  simp only [] at hq
  split at hq
  · rename_i c hc
    exact ⟨_, _, c, rfl, rfl, hc, hq⟩
  · cases hq

theorem checkKey_run0 (D : Nat) {kt : TypeId} {k : Value} {q em : Bool} (hk : keyType P kt = true) (hb : keyBits k = true) (hq : eqT P 3 kt k k = some q) : (Instr.checkKey em (D + 1 + 1) kt k).run P w = .ok () w := by
  unfold keyType at hk
  split at hk
  · rename_i kd hu
    simp only [Instr.checkKey, Sem.run_bind, run_underlying hu, Result.andThen_ok]
    rfl
  · rename_i hu
    simp only [Instr.checkKey, Sem.run_bind, run_underlying hu, Result.andThen_ok]
    rfl
  · rename_i n el hu
    split at hk
    case h_2 => cases hk
    rename_i kd hue
    obtain ⟨xs, ys, c, rfl, h2, hs, hq⟩ := eqT_arr hu hq
    cases h2
    have hps := eqIs_parts hue _ hq
    have hrel : VsRel Env.mk0 xs.toList xs.toList := by
      have := keyBits_rel (e := Env.mk0) hb
      obtain ⟨a', h1, h2⟩ := this.agg_inv
      cases h1; exact h2
    simp only [Instr.checkKey, Sem.run_bind, run_underlying hu, Result.andThen_ok]
    simp only [Std.Legacy.Range.forIn_eq_forIn_range', Std.Legacy.Range.size, Nat.sub_zero, Nat.add_one_sub_one, Nat.div_one]
    rw [List.range_eq_range'] at hps
    generalize List.range' 0 n = is at hps
    induction is with
    | nil => simp
    | cons j is ih =>
      obtain ⟨k, z, hkz⟩ := hps j (by simp)
      obtain ⟨v', hr, hV⟩ := part_sim (w := w) hkz hrel
      cases hV
      simp only [List.forIn_cons, Sem.run_bind, sizeOf_run hs, Result.andThen_ok, hr, run_underlying hue, Sem.run_pure]
      exact ih (fun y hy => hps y (by simp [hy]))
  · cases hk

theorem checkKey_run {kt : TypeId} {k : Value} {q em : Bool} (hk : keyType P kt = true) (hb : keyBits k = true) (hq : eqT P 3 kt k k = some q) : (Instr.checkKey em 10000 kt k).run P w = .ok () w :=
  checkKey_run0 9998 hk hb hq

def FR (e : Env) (k : Value) (es : List MapEntry) (s : Nat) : Option (Nat × Value) → Option (Nat × Value) → Prop
  | none, none => True
  | some (i, v), some (i', v') => i' = i ∧ VRel e v v' ∧ s ≤ i ∧ ∃ x, es[i - s]? = some x ∧ x.key = k ∧ x.val = v
  | _, _ => False

theorem find_run {kt : TypeId} {d : TypeDesc} {k : Value} (hu : P.underlying kt = some d) (hkt : keyType P kt = true) (hb : keyBits k = true) : ∀ (es : List MapEntry) (es' : List MapEntry) (s : Nat) (r : Option (Nat × Value)),
    EsRel e es es' → findA P kt k es s = some r → ∃ r', FR e k es s r r' ∧ (Instr.findAsking kt k es' s).run P w = .ok r' w ∧ (∀ q, Instr.findNow d k es' s = some q → q = r')
  | [], es', s, r, hR, hf => by
    have : es' = [] := List.eq_nil_of_length_eq_zero hR.1.symm
    subst this
    simp only [findA, Option.some.injEq] at hf
    subst hf
    exact ⟨none, trivial, by simp [Instr.findAsking], fun q hq => by simp [Instr.findNow] at hq; exact hq.symm⟩
  | x :: es, [], s, r, hR, hf => by have := hR.1; simp at this
  | x :: es, y :: es', s, r, hR, hf => by
    obtain ⟨hxk, hxv, hxb⟩ := hR.2 0 x y rfl rfl
    have hRt : EsRel e es es' := ⟨by simpa using hR.1, fun i a b ha hb => hR.2 (i + 1) a b ha hb⟩
    have hnow : ∀ b q, eqT P 3 kt k x.key = some b → Instr.sameNow d k y.key = some q → q = b := by
      intro b q h1 h2
      simp only [eqT, hu] at h1
      unfold Instr.sameNow at h2
      split at h2
      · rename_i kd k1 a k2 a2 hye
        generalize hz : x.key = z at hxk h1
        rw [hye] at hxk
        cases hxk
        simp only [] at h1
        rw [h1] at h2
        exact (Option.some.inj h2).symm
      · rename_i a a2 hye
        generalize hz : x.key = z at hxk h1
        rw [hye] at hxk
        cases hxk
        simp only [Option.some.injEq] at h1 h2
        rw [← h1, ← h2, bytesEq_eq, Bool.eq_iff_iff, MapKept.bytes_beq, beq_iff_eq]
        exact ⟨fun hh => by rw [hh], fun hh => ByteArray.ext (Array.ext' hh)⟩
      · rename_i a a2 hye
        generalize hz : x.key = z at hxk h1
        rw [hye] at hxk
        cases hxk
        simp only [Option.some.injEq] at h1 h2
        rw [← h1, ← h2]
      · cases h2
    simp only [findA] at hf
    split at hf
    · rename_i heq
      obtain ⟨hv, hf⟩ := cond_some hf
      cases hf
      have hkx := veq_key hb hv
      have hrun := eqT_run (w := w) 3 kt k x.key true k y.key 10000 (by omega) heq (keyBits_rel hb) hxk
      refine ⟨some (s, y.val), ⟨rfl, hxv, Nat.le_refl _, x, by simp, hkx, rfl⟩, ?_, fun q hq => ?_⟩
      · simp [Instr.findAsking, Op.equal, Op.maxDepth, hrun]
      · simp only [Instr.findNow] at hq
        split at hq
        · exact (Option.some.inj hq).symm
        · rename_i hs; have := hnow _ _ heq hs; cases this
        · cases hq
    · rename_i heq
      have hrun := eqT_run (w := w) 3 kt k x.key false k y.key 10000 (by omega) heq (keyBits_rel hb) hxk
      obtain ⟨r', h1, h2, h3⟩ := find_run hu hkt hb es es' (s + 1) r hRt hf
      refine ⟨r', ?_, ?_, fun q hq => ?_⟩
      · cases r with
        | none => cases r' <;> exact h1
        | some p =>
          obtain ⟨i, v⟩ := p
          cases r' with
          | none => exact h1
          | some p' =>
            obtain ⟨i', v'⟩ := p'
            obtain ⟨g1, g2, g3, z, g4, g5⟩ := h1
            refine ⟨g1, g2, by omega, z, ?_, g5⟩
            rw [show i - s = (i - (s + 1)) + 1 by omega]
            simpa using g4
      · simp [Instr.findAsking, Op.equal, Op.maxDepth, hrun, h2]
      · simp only [Instr.findNow] at hq
        split at hq
        · rename_i hs; have := hnow _ _ heq hs; cases this
        · exact h3 q hq
        · cases hq
    · cases hf

theorem findKey_run {kt : TypeId} {k k' : Value} {em : Bool} {es es' : List MapEntry} {r : Option (Nat × Value)} (hR : EsRel e es es') (hV : VRel e k k') (hf : findKeyA P kt k es = some r) :
    k' = k ∧ keyBits k = true ∧ (Instr.checkKey em 10000 kt k').run P w = .ok () w ∧ ∃ r', FR e k es 0 r r' ∧ (Instr.findKey kt k' es').run P w = .ok r' w := by
  unfold findKeyA at hf
  obtain ⟨hc, hf⟩ := cond_some hf
  simp only [Bool.and_eq_true] at hc
  have hsame := keyBits_same hc.2 hV
  subst hsame
  split at hf
  case h_2 => cases hf
  rename_i q hq
  have hud : ∃ d, P.underlying kt = some d := by
    have := hc.1
    unfold keyType at this
    cases hu : P.underlying kt with
    | none => rw [hu] at this; cases this
    | some d => exact ⟨d, rfl⟩
  obtain ⟨d, hu⟩ := hud
  obtain ⟨r', h1, h2, h3⟩ := find_run (w := w) hu hc.1 hc.2 es es' 0 r hR hf
  refine ⟨rfl, hc.2, checkKey_run hc.1 hc.2 hq, r', h1, ?_⟩
  cases hn : Instr.findNow d k' es' 0 with
  | none => simp [Instr.findKey, run_underlying hu, hn, h2]
  | some s => simp [Instr.findKey, run_underlying hu, hn, h3 s hn]
end
end Go.AM
