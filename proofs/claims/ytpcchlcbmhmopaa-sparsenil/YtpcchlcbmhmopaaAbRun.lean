/- The abstract machine's run: what one operation, a region, a body, a call comes to in the abstract memory; 'none' where it is not followed. -/
import Derived.Test.YtpcchlcbmhmopaaAbVal
import Derived.Orders
namespace Go.Abs

def mapOpt {α β : Type} (f : α → Option β) : List α → Option (List β)
  | [] => some []
  | x :: xs => match f x with
    | none => none
    | some y => match mapOpt f xs with
      | none => none
      | some ys => some (y :: ys)

/-! ## constants, operands -/
def ofBasic : Value → Option AV
  | .bool b => some (.bool b)
  | .int k n => some (.int k n)
  | .string s => some (.str s.data.toList)
  | .pointer none => some (.ptr none)
  | .slice none 0 0 => some (.slice none 0 0 none)
  | .map none => some (.map none)
  | .nilFunc => some .nilFunc
  | .nilIface => some .nilIface
  | _ => none

def ofConst : Value → Option AV
  | .agg cs => (mapOpt ofBasic cs.toList).map .agg
  | v => ofBasic v

def ev (P : Program) (T : List AV) : Operand → Option AV
  | .tmp t => some (T.getD t .undef)
  | .const v => ofConst v
  | .global g => if g < P.globals.size then some (.ptr (some (g, 0))) else none
  | .func f => some (.func (.func f) [] [])

def tsz (P : Program) (t : TypeId) : Option Nat := (P.info? t).map (·.size)
def tbytes (P : Program) (t : TypeId) : Option Nat := (P.info? t).map (·.bytes)
def tagg (P : Program) (t : TypeId) : Option Bool :=
  match P.underlying t with
  | some (.struct _) => some true
  | some (.array _ _) => some true
  | some _ => some false
  | none => none
def tzero (P : Program) (t : TypeId) : Option AV :=
  match P.info? t with
  | some i => match i.zero with
    | some z => ofConst z
    | none => none
  | none => none

/-! ## memory -/
def cellsAt (H : Heap) (b o n : Nat) : Option (List AV) :=
  match H.get b with
  | some (.cells c _ _ _) => if o + n ≤ c.length then some ((c.drop o).take n) else none
  | _ => none

def readVar (agg : Bool) (n o : Nat) : AObj → Option AV
  | .cells c _ _ _ => if agg then (if o + n ≤ c.length then some (.agg ((c.drop o).take n)) else none) else c[o]?
  | _ => none

def writeCells (H : Heap) (b o : Nat) (vs : List AV) : Option Heap :=
  match vs with
  | [] => some H
  | _ => match H.get b with
    | some (.cells c e true m) => if o + vs.length ≤ c.length && vs.all AV.one then some (H.set b (.cells (writeAt c o vs) e true m)) else none
    | _ => none

/-- What an operation does: a value; a new block; a look at blocks; or more. -/
inductive Sm where
  | pure (v : AV)
  | alloc (o : AObj) (mk : Nat → AV)
  | read (bs : List Nat) (k : List AObj → Option AV)
  | heavy (k : Heap → Option (AV × Heap))

def Sm.run : Sm → Heap → Option (AV × Heap)
  | .pure v, H => some (v, H)
  | .alloc o mk, H => some (mk H.next, H.push o)
  | .read bs k, H => match mapOpt H.get bs with
    | some os => match k os with
      | some v => some (v, H)
      | none => none
    | none => none
  | .heavy k, H => k H

/-! ## operations -/
def fillA (place : Nat → Option (Nat × Nat)) (cells : List AV) : List (Nat × AV) → Option (List AV)
  | [] => some cells
  | (i, v) :: rest => match place i with
    | none => none
    | some (off, size) => if v.cells.length ≠ size || off + v.cells.length > cells.length then none else fillA place (writeAt cells off v.cells) rest

def fieldPlaces (P : Program) : List Field → Option (List (Nat × Nat))
  | [] => some []
  | f :: fs => match tsz P f.type, fieldPlaces P fs with
    | some n, some r => some ((f.offset, n) :: r)
    | _, _ => none

def evParts (P : Program) (T : List AV) : List (Nat × Operand) → Option (List (Nat × AV))
  | [] => some []
  | (i, x) :: r => match ev P T x, evParts P T r with
    | some v, some vs => some ((i, v) :: vs)
    | _, _ => none

def zeros (zero : List AV) : Nat → List AV
  | 0 => []
  | n + 1 => zero ++ zeros zero n

def buildA (P : Program) (t : TypeId) (parts : List (Nat × AV)) : Option AV :=
  match tzero P t, P.underlying t with
  | some z, some (.struct fields) => match fieldPlaces P fields.toList with
    | some places => (fillA (places[·]?) z.cells parts).map .agg
    | none => none
  | some z, some (.array _ elem) => match tsz P elem with
    | some size => (fillA (fun i => some (i * size, size)) z.cells parts).map .agg
    | none => none
  | _, _ => none

def buildSliceA (P : Program) (t : TypeId) (len : Nat) (parts : List (Nat × AV)) : Option Sm :=
  match P.underlying t with
  | some (.slice elem) => match tsz P elem, tzero P elem with
    | some size, some z => if len * size > 2 ^ 24 || z.cells.length ≠ size then none else
      match fillA (fun i => some (i * size, size)) (zeros z.cells len) parts with
      | some cells => some (.alloc (.cells cells elem true false) fun n => .slice (some (n, 0)) len len none)
      | none => none
    | _, _ => none
  | _ => none

def partA (P : Program) (t : TypeId) (cs : List AV) (off : Nat) : Option AV :=
  match tagg P t, tsz P t with
  | some true, some n => if off + n ≤ cs.length then some (.agg ((cs.drop off).take n)) else none
  | some false, _ => cs[off]?
  | _, _ => none

/-- Equality of data without addresses. -/
def eqFieldsA (eq : TypeId → AV → AV → Option Bool) (P : Program) (xs ys : List AV) : List Field → Option Bool
  | [] => some true
  | f :: fs => if f.name = "_" then eqFieldsA eq P xs ys fs else
    match partA P f.type xs f.offset, partA P f.type ys f.offset with
    | some x, some y => match eq f.type x y with
      | some true => eqFieldsA eq P xs ys fs
      | some false => some false
      | none => none
    | _, _ => none

def eqItemsA (eq : AV → AV → Option Bool) (P : Program) (elem : TypeId) (n : Nat) (xs ys : List AV) : List Nat → Option Bool
  | [] => some true
  | i :: is => match partA P elem xs (i * n), partA P elem ys (i * n) with
    | some x, some y => match eq x y with
      | some true => eqItemsA eq P elem n xs ys is
      | some false => some false
      | none => none
    | _, _ => none

def eqA (P : Program) : Nat → TypeId → AV → AV → Option Bool
  | 0, _, _, _ => none
  | d + 1, t, x, y =>
    match P.underlying t, x, y with
    | some .bool, .bool a, .bool b => some (a == b)
    | some (.int _), .int k a, .int k' b => if k = k' then some (a == b) else none
    | some .string, .str a, .str b => some (a == b)
    | some (.struct fields), .agg xs, .agg ys => if P.stoodInHeld t then none else eqFieldsA (eqA P d) P xs ys fields.toList
    | some (.array len elem), .agg xs, .agg ys => match tsz P elem with
      | some n => eqItemsA (eqA P d elem) P elem n xs ys (List.range len)
      | none => none
    | _, _, _ => none

def eqRead (a b : Nat × Nat) : List AObj → Option AV
  | [.cells c _ true false, .cells d _ true false] => if a.2 < c.length && b.2 < d.length then some (.bool false) else none
  | _ => none

/-- '==', with what it has to look at. -/
def eqSem (P : Program) (t : TypeId) (x y : AV) (neg : Bool) : Option Sm :=
  match P.underlying t, x, y with
  | some (.pointer _), .ptr none, .ptr b => some (.pure (.bool (b.isNone != neg)))
  | some (.pointer _), .ptr (some _), .ptr none => some (.pure (.bool (false != neg)))
  | some (.pointer e), .ptr (some a), .ptr (some b) =>
    if (tsz P e).getD 0 = 0 then none else
    if a.1 = b.1 then some (.pure (.bool ((a.2 == b.2) != neg))) else
    some (.read [a.1, b.1] fun os => match eqRead a b os with | some _ => some (.bool (false != neg)) | none => none)
  | some (.slice _), .slice none _ _ _, .slice b _ _ _ => some (.pure (.bool (b.isNone != neg)))
  | some (.slice _), .slice (some _) _ _ _, .slice none _ _ _ => some (.pure (.bool (false != neg)))
  | some (.map _ _), .map none, .map b => some (.pure (.bool (b.isNone != neg)))
  | some (.map _ _), .map (some _), .map none => some (.pure (.bool (false != neg)))
  | some (.func _ _ _), .nilFunc, .nilFunc => some (.pure (.bool (true != neg)))
  | some (.func _ _ _), .nilFunc, .func _ _ _ => some (.pure (.bool (false != neg)))
  | some (.func _ _ _), .func _ _ _, .nilFunc => some (.pure (.bool (false != neg)))
  | some (.struct _), .agg _, .agg _ | some (.array _ _), .agg _, .agg _ =>
    if P.eqGuardType P.depth t then none else
    match eqA P 8 t x y with
    | some r => some (.pure (.bool (r != neg)))
    | none => none
  | _, _, _ => none

def strOp (op : BinOp) (x y : List UInt8) : Option AV :=
  match op with
  | .add => if x.length + y.length ≤ 2 ^ 62 then some (.str (x ++ y)) else none
  | .eql => some (.bool (x == y))
  | .neq => some (.bool !(x == y))
  | .lss => some (.bool (Op.bytesLess x y))
  | .leq => some (.bool (Op.bytesLess x y || x == y))
  | .gtr => some (.bool !(Op.bytesLess x y || x == y))
  | .geq => some (.bool !(Op.bytesLess x y))
  | _ => none

def intOp (op : BinOp) (k : IntKind) (a b : Int) : Option AV :=
  match op with
  | .add => some (.int k (k.wrap (a + b)))
  | .sub => some (.int k (k.wrap (a - b)))
  | .mul => some (.int k (k.wrap (a * b)))
  | .quo => if b = 0 then none else some (.int k (k.wrap (a.tdiv b)))
  | .rem => if b = 0 then none else some (.int k (a.tmod b))
  | .and => some (.int k (k.wrap (BitVec.ofInt k.bits a &&& BitVec.ofInt k.bits b).toNat))
  | .or => some (.int k (k.wrap (BitVec.ofInt k.bits a ||| BitVec.ofInt k.bits b).toNat))
  | .xor => some (.int k (k.wrap (BitVec.ofInt k.bits a ^^^ BitVec.ofInt k.bits b).toNat))
  | .andNot => some (.int k (k.wrap (BitVec.ofInt k.bits a &&& ~~~(BitVec.ofInt k.bits b)).toNat))
  | .eql => some (.bool (a == b))
  | .neq => some (.bool (a != b))
  | .lss => some (.bool (a < b))
  | .leq => some (.bool (a ≤ b))
  | .gtr => some (.bool (a > b))
  | .geq => some (.bool (a ≥ b))
  | _ => none

def shiftOp (op : BinOp) (k : IntKind) (a b : Int) : Option AV :=
  if b < 0 then none else
  match op with
  | .shl => some (.int k (k.wrap (a * 2 ^ (min b.toNat k.bits))))
  | .shr => some (.int k (a.fdiv (2 ^ (min b.toNat k.bits))))
  | _ => none

def binSem (P : Program) (op : BinOp) (t : TypeId) (x y : AV) : Option Sm :=
  match op, x, y with
  | .shl, .int k a, .int _ b | .shr, .int k a, .int _ b => (shiftOp op k a b).map .pure
  | _, .int k a, .int k' b => if k = k' then (intOp op k a b).map .pure else none
  | _, .str a, .str b => (strOp op a b).map .pure
  | .eql, .bool a, .bool b => match P.underlying t with
    | some .bool => some (.pure (.bool (a == b)))
    | _ => none
  | .neq, .bool a, .bool b => match P.underlying t with
    | some .bool => some (.pure (.bool !(a == b)))
    | _ => none
  | .eql, x, y => eqSem P t x y false
  | .neq, x, y => eqSem P t x y true
  | _, _, _ => none

def unSem (op : UnOp) (x : AV) : Option AV :=
  match op, x with
  | .not, .bool b => some (.bool !b)
  | .neg, .int k n => some (.int k (k.wrap (0 - n)))
  | .xor, .int k n => some (.int k (k.wrap (BitVec.ofInt k.bits (if k.signed then -1 else k.max) ^^^ BitVec.ofInt k.bits n).toNat))
  | _, _ => none

def bytesOfCells : List AV → Option (List UInt8)
  | [] => some []
  | .int .u8 n :: r => match bytesOfCells r with
    | some bs => some (UInt8.ofNat n.toNat :: bs)
    | none => none
  | _ => none

def cellsOfBytes (s : List UInt8) : List AV := s.map fun b => .int .u8 b.toNat

def convSem (P : Program) (src dst : TypeId) (x : AV) : Option Sm :=
  match P.underlying src, P.underlying dst, x with
  | some _, some (.int k), .int _ n => some (.pure (.int k (k.wrap n)))
  | some _, some .string, .str s => some (.pure (.str s))
  | some _, some (.slice e), .str s => match P.underlying e with
    | some (.int .u8) => if tsz P e = some 1 ∧ s.length ≤ 2 ^ 62 then some (.alloc (.cells (cellsOfBytes s) e true true) fun n => .slice (some (n, 0)) s.length s.length (some 1)) else none
    | _ => none
  | some (.slice _), some (.slice e), .slice (some a) n c ex => if src = dst ∧ 0 < c then
      match P.underlying e with
      | some (.int .u8) => some (.heavy fun H => match H.get a.1 with
        | some (.cells cs el true _) => some (.slice (some a) n c ex, H.set a.1 (.cells cs el true true))
        | _ => none)
      | _ => none
    else none
  | some (.slice e), some .string, .slice a n _ _ => match P.underlying e, a with
    | some (.int .u8), none => some (.pure (.str []))
    | some (.int .u8), some (b, o) => some (.read [b] fun
      | [.cells c _ _ _] => if o + n ≤ c.length then (bytesOfCells ((c.drop o).take n)).map .str else none
      | _ => none)
    | _, _ => none
  | _, _, _ => none

/-- a bound of a slice expression -/
def boundA (x : AV) (y : Nat) : Option Nat :=
  match x with
  | .int _ i => if 0 ≤ i ∧ i ≤ y then some i.toNat else none
  | _ => none

def boundsA (len cap : Nat) (lo hi mx : Option AV) : Option (Nat × Nat × Nat) :=
  match (match mx with | some v => boundA v cap | none => some cap) with
  | none => none
  | some m =>
    match (match hi, mx with | some v, some _ => boundA v m | some v, none => boundA v cap | none, none => some len | none, some _ => none) with
    | none => none
    | some h =>
      match (match lo with | some v => boundA v h | none => some 0) with
      | none => none
      | some l => some (l, h, m)

def evOpt (P : Program) (T : List AV) : Option Operand → Option (Option AV)
  | none => some none
  | some x => (ev P T x).map some

def sliceSem (P : Program) (t : TypeId) (x : AV) (lo hi mx : Option AV) : Option AV :=
  match P.underlying t, x with
  | some (.array n elem), .ptr (some (b, o)) => match boundsA n n lo hi mx, tsz P elem with
    | some (l, h, m), some size => some (.slice (some (b, o + l * size)) (h - l) (m - l) none)
    | _, _ => none
  | some .string, .str s => match mx, boundsA s.length s.length lo hi none with
    | none, some (l, h, _) => some (.str ((s.take h).drop l))
    | _, _ => none
  | some (.slice elem), .slice a len cap ex => match boundsA len cap lo hi mx, tsz P elem with
    | some (l, h, m), some size => match a with
      | none => some (.slice none 0 0 none)
      | some (b, o) => if ex.isNone || ex == some size then some (.slice (some (b, o + l * size)) (h - l) (m - l) (if mx.isSome then none else ex)) else none
    | _, _ => none
  | _, _ => none

def indexAddrSem (P : Program) (t : TypeId) (x ix : AV) : Option AV :=
  match P.underlying t, x, ix with
  | some (.array len elem), .ptr (some (b, o)), .int _ i => match tsz P elem with
    | some size => if 0 ≤ i ∧ i < len then some (.ptr (some (b, o + i.toNat * size))) else none
    | none => none
  | some (.slice elem), .slice (some (b, o)) len _ _, .int _ i => match tsz P elem with
    | some size => if 0 ≤ i ∧ i < len then some (.ptr (some (b, o + i.toNat * size))) else none
    | none => none
  | _, _, _ => none

def indexSem (P : Program) (t : TypeId) (x ix : AV) : Option AV :=
  match P.underlying t, x, ix with
  | some (.array len elem), .agg cs, .int _ i => match tsz P elem with
    | some size => if 0 ≤ i ∧ i < len then partA P elem cs (i.toNat * size) else none
    | none => none
  | some .string, .str s, .int _ i => if 0 ≤ i then match s[i.toNat]? with
      | some b => some (.int .u8 b.toNat)
      | none => none
    else none
  | _, _, _ => none

def keyEq : AV → AV → Option Bool
  | .int k a, .int k' b => if k = k' then some (a == b) else none
  | .str a, .str b => some (a == b)
  | .bool a, .bool b => some (a == b)
  | _, _ => none

def findA (k : AV) : List (AV × AV) → Nat → Option (Option (Nat × AV))
  | [], _ => some none
  | (x, v) :: r, i => match keyEq k x with
    | some true => some (some (i, v))
    | some false => findA k r (i + 1)
    | none => none

/-- a key of a plain kind, of the map's key type -/
def keyFits (P : Program) (t : TypeId) : AV → Bool
  | .int _ _ => match P.underlying t with | some (.int _) => true | _ => false
  | .str _ => match P.underlying t with | some .string => true | _ => false
  | .bool _ => match P.underlying t with | some .bool => true | _ => false
  | _ => false

def lookupSem (P : Program) (t : TypeId) (x k : AV) (ok : Bool) : Option Sm :=
  match P.underlying t with
  | some (.map key elem) => if keyFits P key k then
      match tzero P elem, x with
      | some z, .map none => some (.pure (if ok then .tuple [z, .bool false] else z))
      | some z, .map (some r) => some (.read [r] fun
        | [.map es] => match findA k es 0 with
          | some (some (_, v)) => some (if ok then .tuple [v, .bool true] else v)
          | some none => some (if ok then .tuple [z, .bool false] else z)
          | none => none
        | _ => none)
      | _, _ => none
    else none
  | _ => none

def mapSet (es : List (AV × AV)) (i : Nat) (k v : AV) : List (AV × AV) := es.set i (k, v)

def updateSem (P : Program) (t : TypeId) (m k v : AV) : Option Sm :=
  match P.underlying t, m with
  | some (.map key _), .map (some r) => if keyFits P key k then
      some (.heavy fun H => match H.get r with
        | some (.map es) => match findA k es 0 with
          | some (some (i, _)) => some (.undef, H.set r (.map (mapSet es i k v)))
          | some none => some (.undef, H.set r (.map (es ++ [(k, v)])))
          | none => none
        | _ => none)
    else none
  | _, _ => none

def makeSliceSem (P : Program) (t : TypeId) (len cap : AV) : Option Sm :=
  match P.underlying t, len, cap with
  | some (.slice elem), .int _ l, .int _ c => match tbytes P elem, tsz P elem, tzero P elem with
    | some bytes, some size, some z =>
      if 0 ≤ l ∧ l ≤ c ∧ c ≤ 2 ^ 47 ∧ bytes * c ≤ 2 ^ 48 ∧ z.cells.length = size then
        some (.alloc (.cells (zeros z.cells c.toNat) elem true false) fun n => .slice (some (n, 0)) l.toNat c.toNat none)
      else none
    | _, _, _ => none
  | _, _, _ => none

/-! ## builtins -/
def srcLen : AV → Option Nat
  | .slice _ n _ _ => some n
  | .str s => some s.length
  | _ => none

def srcCells (H : Heap) (size n : Nat) : AV → Option (List AV)
  | .slice none _ _ _ => some []
  | .slice (some (b, o)) len _ _ => if n * size = 0 then some [] else if n ≤ len then cellsAt H b o (n * size) else none
  | .str s => some (cellsOfBytes (s.take n))
  | _ => none

/-- the growing arm: is the sum of the bytes within what Go's growslice takes, whatever the capacity was? -/
def growFits (need cap bytes : Nat) (known : Bool) : Bool :=
  need ≤ 2 ^ 62 && ((need * bytes ≤ 2 ^ 46 && (need ≤ 2 ^ 46)) || (known && cap == 0 && need * bytes ≤ 2 ^ 48))

def appendA (elem : TypeId) (size bytes : Nat) (base : Option (Nat × Nat)) (sLen sCap : Nat) (sl : Option Nat) (n : Nat) (new : List AV) (H : Heap) : Option (AV × Heap) :=
  if sLen + n ≤ sCap then
    match base with
    | none => some (.slice none 0 0 none, H)
    | some (b, o) => match writeCells H b (o + sLen * size) new with
      | some H' => some (.slice (some (b, o)) (sLen + n) sCap sl, H')
      | none => none
  else if growFits (sLen + n) sCap bytes (base.isNone || sl.isNone) then
    match srcCells H size sLen (.slice base sLen sCap sl) with
    | none => none
    | some old => match base, sl with
      | some (b, o), some s => match H.get b with
        | some (.cells c _ true false) => if s = size ∧ o + sLen * size ≤ c.length ∧ new.all AV.one then some (.slice (some (H.next, 0)) (sLen + n) (sLen + n) (some size), (H.set b .dead).push (.cells (old ++ new) elem true false)) else none
        | _ => none
      | _, _ => some (.slice (some (H.next, 0)) (sLen + n) (sLen + n) (some size), H.push (.cells (old ++ new) elem true false))
  else none

/-- 'append(s, make([]T, n)...)' is handed n itself. -/
def isCount (P : Program) (u : Option TypeId) : Bool :=
  match u with
  | some u => match P.underlying u with
    | some (.int _) => true
    | _ => false
  | none => false

def appendSem (P : Program) (ts : Array TypeId) (s x : AV) : Option Sm :=
  match ts[0]? with
  | none => none
  | some t => match P.underlying t with
    | some (.slice elem) => match tsz P elem, tbytes P elem, tzero P elem, s with
      | some size, some bytes, some z, .slice base sLen sCap ex =>
        if z.cells.length ≠ size then none else
        if isCount P ts[1]? then match x with
          | .int _ l => if 0 ≤ l ∧ l ≤ 2 ^ 47 ∧ l * bytes ≤ 2 ^ 48 then
              some (.heavy fun H => appendA elem size bytes base sLen sCap ex l.toNat (zeros z.cells l.toNat) H) else none
          | _ => none
        else match ts[1]? with
          | some u => match P.underlying u, srcLen x with
            | some _, some n => some (.heavy fun H => match srcCells H size n x with
              | some new => if new.length = n * size then appendA elem size bytes base sLen sCap ex n new H else none
              | none => none)
            | _, _ => none
          | none => none
      | _, _, _, _ => none
    | _ => none

def copySem (P : Program) (ts : Array TypeId) (d x : AV) : Option Sm :=
  match ts[0]? with
  | none => none
  | some t => match P.underlying t, d, srcLen x with
    | some (.slice elem), .slice base dLen _ _, some m => match tsz P elem with
      | some size => some (.heavy fun H => match srcCells H size (Nat.min m dLen) x with
        | some cells => if cells.length ≠ Nat.min m dLen * size then none else
          match base with
          | none => some (.int .i64 (Nat.min m dLen : Nat), H)
          | some (b, o) => match writeCells H b o cells with
            | some H' => some (.int .i64 (Nat.min m dLen : Nat), H')
            | none => none
        | none => none)
      | none => none
    | _, _, _ => none

def clearSem (P : Program) (ts : Array TypeId) (x : AV) : Option Sm :=
  match ts[0]? with
  | none => none
  | some t => match P.underlying t, x with
    | some _, .map none => some (.pure .undef)
    | some _, .slice none _ _ _ => some (.pure .undef)
    | some (.map _ _), .map (some r) => some (.heavy fun H => match H.get r with
      | some (.map _) => some (.undef, H.set r (.map []))
      | _ => none)
    | some (.slice elem), .slice (some (b, o)) n _ _ => if n = 0 then some (.pure .undef) else
      match tzero P elem, tsz P elem with
      | some z, some size => if z.cells.length ≠ size then none else some (.heavy fun H => match writeCells H b o (zeros z.cells n) with
        | some H' => some (.undef, H')
        | none => none)
      | _, _ => none
    | _, _ => none

def deleteSem (P : Program) (ts : Array TypeId) (m k : AV) : Option Sm :=
  match ts[0]? with
  | none => none
  | some t => match P.underlying t, m with
    | some (.map key _), .map none => if keyFits P key k then some (.pure .undef) else none
    | some (.map key _), .map (some r) => if keyFits P key k then
        some (.heavy fun H => match H.get r with
          | some (.map es) => match findA k es 0 with
            | some (some (i, _)) => some (.undef, H.set r (.map (es.eraseIdx i)))
            | some none => some (.undef, H)
            | none => none
          | _ => none)
      else none
    | _, _ => none

def lenSem (P : Program) (ts : Array TypeId) (x : AV) : Option Sm :=
  match ts[0]? with
  | none => none
  | some t => match P.underlying t, x with
    | some .string, .str s => some (.pure (.int .i64 s.length))
    | some (.slice _), .slice _ n _ _ => some (.pure (.int .i64 n))
    | some (.map _ _), .map none => some (.pure (.int .i64 0))
    | some (.map _ _), .map (some r) => some (.read [r] fun
      | [.map es] => some (.int .i64 es.length)
      | _ => none)
    | some (.array n _), _ => some (.pure (.int .i64 n))
    | some (.pointer arr), _ => match P.underlying arr with
      | some (.array n _) => some (.pure (.int .i64 n))
      | _ => none
    | _, _ => none

def capSem (P : Program) (ts : Array TypeId) (x : AV) : Option Sm :=
  match ts[0]? with
  | none => none
  | some t => match P.underlying t, x with
    | some (.slice _), .slice none _ _ _ => some (.pure (.int .i64 0))
    | some (.slice _), .slice (some _) _ c none => some (.pure (.int .i64 c))
    | some (.array n _), _ => some (.pure (.int .i64 n))
    | _, _ => none

def maxA : AV → List AV → Option AV
  | x, [] => some x
  | .int k x, .int k' y :: r => if k = k' then maxA (.int k (if y > x then y else x)) r else none
  | _, _ => none

def minA : AV → List AV → Option AV
  | x, [] => some x
  | .int k x, .int k' y :: r => if k = k' then minA (.int k (if y < x then y else x)) r else none
  | _, _ => none

def builtinSem (P : Program) (b : Builtin) (ts : Array TypeId) (args : List AV) : Option Sm :=
  match b, args with
  | .append, [s, x] => appendSem P ts s x
  | .copy, [d, x] => copySem P ts d x
  | .clear, [x] => clearSem P ts x
  | .delete, [m, k] => deleteSem P ts m k
  | .len, [x] => lenSem P ts x
  | .cap, [x] => capSem P ts x
  | .max, x :: r => (maxA x r).map .pure
  | .min, x :: r => (minA x r).map .pure
  | _, _ => none

abbrev CallFn := FuncId → List AV → Heap → Option (AV × Heap)

def callSem (P : Program) (call : CallFn) (T : List AV) (c : Call) : Option Sm :=
  match mapOpt (ev P T) c.args.toList with
  | none => none
  | some args => match c.callee with
    | .builtin b => builtinSem P b c.argTypes args
    | .value f => match ev P T f with
      | some (.func (.func g) first captured) => some (.heavy fun H => call g (first ++ args ++ captured) H)
      | _ => none
    | .invoke _ _ => none

def sem (P : Program) (call : CallFn) (T : List AV) (op : Op) : Option Sm :=
  match op with
  | .move x | .assign x => (ev P T x).map .pure
  | .pick c a b => match ev P T c, ev P T a, ev P T b with
    | some (.bool t), some x, some y => some (.pure (if t then x else y))
    | _, _, _ => none
  | .alloc e => (tzero P e).map fun z => .alloc (.cells z.cells e true false) fun n => .ptr (some (n, 0))
  | .box e x => (ev P T x).map fun v => .alloc (.cells v.cells e true false) fun n => .ptr (some (n, 0))
  | .build t parts => match evParts P T parts.toList with
    | some ps => (buildA P t ps).map .pure
    | none => none
  | .buildSlice t len parts => match evParts P T parts.toList with
    | some ps => buildSliceA P t len ps
    | none => none
  | .load t a => match ev P T a, tagg P t, tsz P t with
    | some (.ptr (some (b, o))), some g, some n => some (.read [b] fun
      | [x] => readVar g n o x
      | _ => none)
    | _, _, _ => none
  | .store t a x => match ev P T a, ev P T x, tsz P t with
    | some (.ptr (some (b, o))), some v, some n => if v.cells.length ≠ n then none else
      some (.heavy fun H => match writeCells H b o v.cells with
        | some H' => some (.undef, H')
        | none => none)
    | _, _, _ => none
  | .nilCheck x => match ev P T x with
    | some (.ptr (some a)) => some (.pure (.ptr (some a)))
    | some (.func (.func f) xs ys) => some (.pure (.func (.func f) xs ys))
    | _ => none
  | .binOp op t x y _ => match ev P T x, ev P T y with
    | some a, some b => binSem P op t a b
    | _, _ => none
  | .unOp op _ x => match ev P T x with
    | some v => (unSem op v).map .pure
    | none => none
  | .convert src dst x => match ev P T x with
    | some v => convSem P src dst v
    | none => none
  | .sliceToArrayPointer arr x => match P.underlying arr, ev P T x with
    | some (.array n _), some (.slice (some a) len _ _) => if len < n then none else if n = 0 then none else some (.pure (.ptr (some a)))
    | _, _ => none
  | .makeInterface t x => match P.underlying t, ev P T x with
    | some (.interface _), _ => none
    | some _, some v => some (.pure (.iface t v))
    | _, _ => none
  | .makeFunc fn first captured => match mapOpt (ev P T) first.toList, mapOpt (ev P T) captured.toList with
    | some a, some b => some (.pure (.func fn a b))
    | _, _ => none
  | .makeMap t r => match P.underlying t, r with
    | some (.map _ _), none => some (.alloc (.map []) fun n => .map (some n))
    | some (.map _ _), some x => match ev P T x with
      | some (.int _ _) => some (.alloc (.map []) fun n => .map (some n))
      | _ => none
    | _, _ => none
  | .makeSlice t l c => match ev P T l, ev P T c with
    | some a, some b => makeSliceSem P t a b
    | _, _ => none
  | .slice t x lo hi mx => match ev P T x, evOpt P T lo, evOpt P T hi, evOpt P T mx with
    | some v, some l, some h, some m => (sliceSem P t v l h m).map .pure
    | _, _, _, _ => none
  | .fieldAddr s x f => match P.underlying s, ev P T x with
    | some (.struct fields), some (.ptr (some (b, o))) => match fields[f]? with
      | some fd => if (tsz P fd.type).getD 0 = 0 then none else some (.pure (.ptr (some (b, o + fd.offset))))
      | none => none
    | _, _ => none
  | .field t x f => match P.underlying t, ev P T x with
    | some (.struct fields), some (.agg cs) => match fields[f]? with
      | some fd => (partA P fd.type cs fd.offset).map .pure
      | none => none
    | _, _ => none
  | .indexAddr t x ix => match ev P T x, ev P T ix with
    | some a, some b => (indexAddrSem P t a b).map .pure
    | _, _ => none
  | .index t x ix => match ev P T x, ev P T ix with
    | some a, some b => (indexSem P t a b).map .pure
    | _, _ => none
  | .lookup t x k ok => match ev P T x, ev P T k with
    | some a, some b => lookupSem P t a b ok
    | _, _ => none
  | .mapUpdate t m k x | .insert t m k x => match ev P T m, ev P T k, ev P T x with
    | some a, some b, some v => updateSem P t a b v
    | _, _, _ => none
  | .extract t ix => match ev P T t with
    | some (.tuple vs) => (vs[ix]?).map .pure
    | _ => none
  | .call c => callSem P call T c
  | _ => none

/-! ## regions -/
def put (T : List AV) (d : Option Tmp) (v : AV) : List AV :=
  match d with
  | some d => T.set d v
  | none => T

def yieldedA (ops : Array Oper) (T : List AV) (j : Nat) : Option Bool :=
  match ops[j]? with
  | some o => match o.dst with
    | some d => match T[d]? with
      | some (.bool b) => some b
      | _ => none
    | none => none
  | none => none

def wantedA (ops : Array Oper) (T : List AV) (o : Oper) : Bool :=
  match o.guard with
  | none => true
  | some (j, want) => yieldedA ops T j == some want

def runOp (P : Program) (call : CallFn) (T : List AV) (o : Oper) (H : Heap) : Option (AV × Heap) :=
  match sem P call T o.op with
  | some s => s.run H
  | none => none

def runOps (P : Program) (call : CallFn) (ops : Array Oper) : List Oper → List AV → Heap → Option (List AV × Heap)
  | [], T, H => some (T, H)
  | o :: os, T, H =>
    if wantedA ops T o then
      match runOp P call T o H with
      | some (v, H') => runOps P call ops os (put T o.dst v) H'
      | none => none
    else runOps P call ops os (put T o.dst .undef) H

end Go.Abs
