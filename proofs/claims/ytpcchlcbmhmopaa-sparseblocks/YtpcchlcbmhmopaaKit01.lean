/- Texts on the abstract machine, joined. -/
import Derived.Calls
import Derived.Orders
import Derived.Laws.Cells

/- The abstract machine's values and memory: a deterministic picture of the model's memory, with no tape, no capacities and no block numbers of the world's. -/
namespace Go.Abs

/-- A value: addresses are (block, offset) in the abstract memory; a slice's capacity is exact (slack: none), or a lower bound (slack: the cells of an element). -/
inductive AV where
  | bool (b : Bool)
  | int (k : IntKind) (n : Int)
  | str (s : List UInt8)
  | ptr (a : Option (Nat × Nat))
  | slice (a : Option (Nat × Nat)) (len cap : Nat) (slack : Option Nat)
  | map (r : Option Nat)
  | func (fn : Fn) (first captured : List AV)
  | nilFunc
  | iface (t : TypeId) (v : AV)
  | nilIface
  | agg (cs : List AV)
  | tuple (vs : List AV)

instance : Inhabited AV := ⟨.nilFunc⟩

def AV.undef : AV := .tuple []

def AV.cells : AV → List AV
  | .agg cs => cs
  | v => [v]

/-- A value of one cell. -/
def AV.one : AV → Bool
  | .agg _ => false
  | .tuple _ => false
  | _ => true

mutual
def AV.beq : AV → AV → Bool
  | .bool a, .bool b => a == b
  | .int j a, .int k b => j == k && a == b
  | .str a, .str b => a == b
  | .ptr a, .ptr b => a == b
  | .slice a n c e, .slice b m d f => a == b && n == m && c == d && e == f
  | .map a, .map b => a == b
  | .func f xs ys, .func g us vs => f == g && AV.beqs xs us && AV.beqs ys vs
  | .nilFunc, .nilFunc => true
  | .iface t v, .iface u x => t == u && AV.beq v x
  | .nilIface, .nilIface => true
  | .agg xs, .agg ys => AV.beqs xs ys
  | .tuple xs, .tuple ys => AV.beqs xs ys
  | _, _ => false
def AV.beqs : List AV → List AV → Bool
  | [], [] => true
  | x :: xs, y :: ys => AV.beq x y && AV.beqs xs ys
  | _, _ => false
end

mutual
theorem AV.beq_refl : ∀ a : AV, AV.beq a a = true
  | .bool _ => by simp [AV.beq]
  | .int _ _ => by simp [AV.beq]
  | .str _ => by simp [AV.beq]
  | .ptr _ => by simp [AV.beq]
  | .slice _ _ _ _ => by simp [AV.beq]
  | .map _ => by simp [AV.beq]
  | .func _ xs ys => by simp [AV.beq, AV.beqs_refl xs, AV.beqs_refl ys]
  | .nilFunc => by simp [AV.beq]
  | .iface _ v => by simp [AV.beq, AV.beq_refl v]
  | .nilIface => by simp [AV.beq]
  | .agg xs => by simp [AV.beq, AV.beqs_refl xs]
  | .tuple xs => by simp [AV.beq, AV.beqs_refl xs]
theorem AV.beqs_refl : ∀ l : List AV, AV.beqs l l = true
  | [] => by simp [AV.beqs]
  | x :: xs => by simp [AV.beqs, AV.beq_refl x, AV.beqs_refl xs]
end

mutual
theorem AV.eq_of_beq : ∀ a b : AV, AV.beq a b = true → a = b
  | .bool a, b, h => by cases b <;> simp_all [AV.beq]
  | .int _ _, b, h => by cases b <;> simp_all [AV.beq]
  | .str _, b, h => by cases b <;> simp_all [AV.beq]
  | .ptr _, b, h => by cases b <;> simp_all [AV.beq]
  | .slice _ _ _ _, b, h => by cases b <;> simp_all [AV.beq]
  | .map _, b, h => by cases b <;> simp_all [AV.beq]
  | .func _ xs ys, b, h => by
    cases b <;> simp [AV.beq] at h
    rename_i us vs
    simp [h.1.1, AV.eq_of_beqs xs us h.1.2, AV.eq_of_beqs ys vs h.2]
  | .nilFunc, b, h => by cases b <;> simp_all [AV.beq]
  | .iface _ v, b, h => by
    cases b <;> simp [AV.beq] at h
    simp [h.1, AV.eq_of_beq v _ h.2]
  | .nilIface, b, h => by cases b <;> simp_all [AV.beq]
  | .agg xs, b, h => by
    cases b <;> simp [AV.beq] at h
    simp [AV.eq_of_beqs xs _ h]
  | .tuple xs, b, h => by
    cases b <;> simp [AV.beq] at h
    simp [AV.eq_of_beqs xs _ h]
theorem AV.eq_of_beqs : ∀ a b : List AV, AV.beqs a b = true → a = b
  | [], b, h => by cases b <;> simp_all [AV.beqs]
  | x :: xs, b, h => by
    cases b <;> simp [AV.beqs] at h
    simp [AV.eq_of_beq x _ h.1, AV.eq_of_beqs xs _ h.2]
end

/-- What lies in a block. 'own': it was made by the run and may be written; 'marked': its bytes may be a string's constant's. -/
inductive AObj where
  | cells (c : List AV) (elem : TypeId) (own marked : Bool)
  | map (es : List (AV × AV))
  | dead

instance : Inhabited AObj := ⟨.dead⟩

def beqPairs : List (AV × AV) → List (AV × AV) → Bool
  | [], [] => true
  | (a, b) :: xs, (c, d) :: ys => a.beq c && b.beq d && beqPairs xs ys
  | _, _ => false

theorem beqPairs_refl : ∀ l, beqPairs l l = true
  | [] => rfl
  | (a, b) :: xs => by simp [beqPairs, AV.beq_refl, beqPairs_refl xs]

theorem eq_of_beqPairs : ∀ a b, beqPairs a b = true → a = b
  | [], b, h => by cases b <;> simp_all [beqPairs]
  | (x, y) :: xs, b, h => by
    cases b with
    | nil => simp [beqPairs] at h
    | cons p ys =>
      obtain ⟨u, v⟩ := p
      simp [beqPairs] at h
      rw [AV.eq_of_beq _ _ h.1.1, AV.eq_of_beq _ _ h.1.2, eq_of_beqPairs _ _ h.2]

def AObj.beq : AObj → AObj → Bool
  | .cells c e o m, .cells d f p n => AV.beqs c d && e == f && o == p && m == n
  | .map a, .map b => beqPairs a b
  | .dead, .dead => true
  | _, _ => false

theorem AObj.beq_refl : ∀ o : AObj, o.beq o = true
  | .cells c _ _ _ => by simp [AObj.beq, AV.beqs_refl]
  | .map es => by simp [AObj.beq, beqPairs_refl]
  | .dead => rfl

theorem AObj.eq_of_beq (a b : AObj) (h : a.beq b = true) : a = b := by
  cases a <;> cases b <;> simp [AObj.beq] at h
  · simp [AV.eq_of_beqs _ _ h.1.1.1, h.1.1.2, h.1.2, h.2]
  · simp [eq_of_beqPairs _ _ h]
  · rfl

/-- Memory: a tree by the digits of a block's number. -/
inductive Tree where
  | leaf
  | node (l : Tree) (v : Option AObj) (r : Tree)

def Tree.get : Tree → Nat → Option AObj
  | .leaf, _ => none
  | .node l v r, n => if n = 0 then v else if n % 2 = 1 then l.get (n / 2) else r.get (n / 2 - 1)

/-- With fuel: at most as many digits as the number says. -/
def Tree.single : Nat → Nat → AObj → Tree
  | 0, _, o => .node .leaf (some o) .leaf
  | f + 1, n, o => if n = 0 then .node .leaf (some o) .leaf else if n % 2 = 1 then .node (Tree.single f (n / 2) o) none .leaf else .node .leaf none (Tree.single f (n / 2 - 1) o)

def Tree.set : Tree → Nat → AObj → Tree
  | .leaf, n, o => Tree.single n n o
  | .node l v r, n, o => if n = 0 then .node l (some o) r else if n % 2 = 1 then .node (l.set (n / 2) o) v r else .node l v (r.set (n / 2 - 1) o)

theorem Tree.get_single : ∀ (f n m : Nat) (o : AObj), n ≤ f → (Tree.single f n o).get m = if m = n then some o else none
  | 0, n, m, o, h => by
    have : n = 0 := by omega
    subst this
    simp only [Tree.single, Tree.get]
    split
    · rfl
    · split <;> rfl
  | f + 1, n, m, o, h => by
    unfold Tree.single
    by_cases h0 : n = 0
    · subst h0
      simp only [if_true, Tree.get]
      split
      · rfl
      · split <;> rfl
    · rw [if_neg h0]
      by_cases h1 : n % 2 = 1
      · rw [if_pos h1]
        simp only [Tree.get]
        by_cases m0 : m = 0
        · rw [if_pos m0, if_neg (by omega)]
        · rw [if_neg m0]
          by_cases m1 : m % 2 = 1
          · rw [if_pos m1, Tree.get_single f _ _ _ (by omega)]
            by_cases e : m = n
            · rw [if_pos e, if_pos (by omega)]
            · rw [if_neg e, if_neg (by omega)]
          · rw [if_neg m1, if_neg (by omega)]
      · rw [if_neg h1]
        simp only [Tree.get]
        by_cases m0 : m = 0
        · rw [if_pos m0, if_neg (by omega)]
        · rw [if_neg m0]
          by_cases m1 : m % 2 = 1
          · rw [if_pos m1, if_neg (by omega)]
          · rw [if_neg m1, Tree.get_single f _ _ _ (by omega)]
            by_cases e : m = n
            · rw [if_pos e, if_pos (by omega)]
            · rw [if_neg e, if_neg (by omega)]

theorem Tree.get_set : ∀ (t : Tree) (n m : Nat) (o : AObj), (t.set n o).get m = if m = n then some o else t.get m
  | .leaf, n, m, o => by simp [Tree.set, Tree.get_single n n m o (Nat.le_refl _), Tree.get]
  | .node l v r, n, m, o => by
    unfold Tree.set
    by_cases h0 : n = 0
    · subst h0
      simp only [if_true, Tree.get]
      by_cases m0 : m = 0
      · simp [m0]
      · simp [m0]
    · rw [if_neg h0]
      by_cases h1 : n % 2 = 1
      · rw [if_pos h1]
        simp only [Tree.get]
        by_cases m0 : m = 0
        · rw [if_pos m0, if_neg (by omega), if_pos m0]
        · rw [if_neg m0, if_neg m0]
          by_cases m1 : m % 2 = 1
          · rw [if_pos m1, if_pos m1, Tree.get_set l]
            by_cases e : m = n
            · rw [if_pos e, if_pos (by omega)]
            · rw [if_neg e, if_neg (by omega)]
          · rw [if_neg m1, if_neg m1, if_neg (by omega)]
      · rw [if_neg h1]
        simp only [Tree.get]
        by_cases m0 : m = 0
        · rw [if_pos m0, if_neg (by omega), if_pos m0]
        · rw [if_neg m0, if_neg m0]
          by_cases m1 : m % 2 = 1
          · rw [if_pos m1, if_pos m1, if_neg (by omega)]
          · rw [if_neg m1, if_neg m1, Tree.get_set r]
            by_cases e : m = n
            · rw [if_pos e, if_pos (by omega)]
            · rw [if_neg e, if_neg (by omega)]

structure Heap where
  next : Nat
  tree : Tree

def Heap.get (H : Heap) (b : Nat) : Option AObj := H.tree.get b
def Heap.set (H : Heap) (b : Nat) (o : AObj) : Heap := { H with tree := H.tree.set b o }
def Heap.push (H : Heap) (o : AObj) : Heap := { next := H.next + 1, tree := H.tree.set H.next o }

theorem Heap.get_set (H : Heap) (b c : Nat) (o : AObj) : (H.set b o).get c = if c = b then some o else H.get c := Tree.get_set _ _ _ _
theorem Heap.get_push (H : Heap) (c : Nat) (o : AObj) : (H.push o).get c = if c = H.next then some o else H.get c := Tree.get_set _ _ _ _
@[simp] theorem Heap.next_set (H : Heap) (b : Nat) (o : AObj) : (H.set b o).next = H.next := rfl
@[simp] theorem Heap.next_push (H : Heap) (o : AObj) : (H.push o).next = H.next + 1 := rfl
theorem Heap.get_set_same (H : Heap) (b : Nat) (o : AObj) : (H.set b o).get b = some o := by simp [Heap.get_set]
theorem Heap.get_set_ne (H : Heap) {b c : Nat} (o : AObj) (h : c ≠ b) : (H.set b o).get c = H.get c := by simp [Heap.get_set, h]

/-- Cells written one behind the other. -/
def writeAt : List AV → Nat → List AV → List AV
  | c, _, [] => c
  | c, o, v :: vs => writeAt (c.set o v) (o + 1) vs

theorem length_writeAt : ∀ (vs c : List AV) (o : Nat), (writeAt c o vs).length = c.length
  | [], _, _ => rfl
  | v :: vs, c, o => by simp [writeAt, length_writeAt vs]

end Go.Abs

/- The abstract machine's run: what one operation, a region, a body, a call comes to in the abstract memory; 'none' where it is not followed. -/
namespace Go.Abs

def mapOpt {α β : Type} (f : α → Option β) : List α → Option (List β)
  | [] => some []
  | x :: xs => match f x with
    | none => none
    | some y => match mapOpt f xs with
      | none => none
      | some ys => some (y :: ys)

/-! ## constants, operands -/
def ofBasic : Value → Option AV
  | .bool b => some (.bool b)
  | .int k n => some (.int k n)
  | .string s => some (.str s.data.toList)
  | .pointer none => some (.ptr none)
  | .slice none 0 0 => some (.slice none 0 0 none)
  | .map none => some (.map none)
  | .nilFunc => some .nilFunc
  | .nilIface => some .nilIface
  | _ => none

def ofConst : Value → Option AV
  | .agg cs => (mapOpt ofBasic cs.toList).map .agg
  | v => ofBasic v

def ev (P : Program) (T : List AV) : Operand → Option AV
  | .tmp t => some (T.getD t .undef)
  | .const v => ofConst v
  | .global g => if g < P.globals.size then some (.ptr (some (g, 0))) else none
  | .func f => some (.func (.func f) [] [])

def tsz (P : Program) (t : TypeId) : Option Nat := (P.info? t).map (·.size)
def tbytes (P : Program) (t : TypeId) : Option Nat := (P.info? t).map (·.bytes)
def tagg (P : Program) (t : TypeId) : Option Bool :=
  match P.underlying t with
  | some (.struct _) => some true
  | some (.array _ _) => some true
  | some _ => some false
  | none => none
def tzero (P : Program) (t : TypeId) : Option AV :=
  match P.info? t with
  | some i => match i.zero with
    | some z => ofConst z
    | none => none
  | none => none

/-! ## memory -/
def cellsAt (H : Heap) (b o n : Nat) : Option (List AV) :=
  match H.get b with
  | some (.cells c _ _ _) => if o + n ≤ c.length then some ((c.drop o).take n) else none
  | _ => none

def readVar (agg : Bool) (n o : Nat) : AObj → Option AV
  | .cells c _ _ _ => if agg then (if o + n ≤ c.length then some (.agg ((c.drop o).take n)) else none) else c[o]?
  | _ => none

def writeCells (H : Heap) (b o : Nat) (vs : List AV) : Option Heap :=
  match vs with
  | [] => some H
  | _ => match H.get b with
    | some (.cells c e true m) => if o + vs.length ≤ c.length && vs.all AV.one then some (H.set b (.cells (writeAt c o vs) e true m)) else none
    | _ => none

/-- What an operation does: a value; a new block; a look at blocks; or more. -/
inductive Sm where
  | pure (v : AV)
  | alloc (o : AObj) (mk : Nat → AV)
  | read (bs : List Nat) (k : List AObj → Option AV)
  | heavy (k : Heap → Option (AV × Heap))

def Sm.run : Sm → Heap → Option (AV × Heap)
  | .pure v, H => some (v, H)
  | .alloc o mk, H => some (mk H.next, H.push o)
  | .read bs k, H => match mapOpt H.get bs with
    | some os => match k os with
      | some v => some (v, H)
      | none => none
    | none => none
  | .heavy k, H => k H

/-! ## operations -/
def fillA (place : Nat → Option (Nat × Nat)) (cells : List AV) : List (Nat × AV) → Option (List AV)
  | [] => some cells
  | (i, v) :: rest => match place i with
    | none => none
    | some (off, size) => if v.cells.length ≠ size || off + v.cells.length > cells.length then none else fillA place (writeAt cells off v.cells) rest

def fieldPlaces (P : Program) : List Field → Option (List (Nat × Nat))
  | [] => some []
  | f :: fs => match tsz P f.type, fieldPlaces P fs with
    | some n, some r => some ((f.offset, n) :: r)
    | _, _ => none

def evParts (P : Program) (T : List AV) : List (Nat × Operand) → Option (List (Nat × AV))
  | [] => some []
  | (i, x) :: r => match ev P T x, evParts P T r with
    | some v, some vs => some ((i, v) :: vs)
    | _, _ => none

def zeros (zero : List AV) : Nat → List AV
  | 0 => []
  | n + 1 => zero ++ zeros zero n

def buildA (P : Program) (t : TypeId) (parts : List (Nat × AV)) : Option AV :=
  match tzero P t, P.underlying t with
  | some z, some (.struct fields) => match fieldPlaces P fields.toList with
    | some places => (fillA (places[·]?) z.cells parts).map .agg
    | none => none
  | some z, some (.array _ elem) => match tsz P elem with
    | some size => (fillA (fun i => some (i * size, size)) z.cells parts).map .agg
    | none => none
  | _, _ => none

def buildSliceA (P : Program) (t : TypeId) (len : Nat) (parts : List (Nat × AV)) : Option Sm :=
  match P.underlying t with
  | some (.slice elem) => match tsz P elem, tzero P elem with
    | some size, some z => if len * size > 2 ^ 24 || z.cells.length ≠ size then none else
      match fillA (fun i => some (i * size, size)) (zeros z.cells len) parts with
      | some cells => some (.alloc (.cells cells elem true false) fun n => .slice (some (n, 0)) len len none)
      | none => none
    | _, _ => none
  | _ => none

def partA (P : Program) (t : TypeId) (cs : List AV) (off : Nat) : Option AV :=
  match tagg P t, tsz P t with
  | some true, some n => if off + n ≤ cs.length then some (.agg ((cs.drop off).take n)) else none
  | some false, _ => cs[off]?
  | _, _ => none

/-- Equality of data without addresses. -/
def eqFieldsA (eq : TypeId → AV → AV → Option Bool) (P : Program) (xs ys : List AV) : List Field → Option Bool
  | [] => some true
  | f :: fs => if f.name = "_" then eqFieldsA eq P xs ys fs else
    match partA P f.type xs f.offset, partA P f.type ys f.offset with
    | some x, some y => match eq f.type x y with
      | some true => eqFieldsA eq P xs ys fs
      | some false => some false
      | none => none
    | _, _ => none

def eqItemsA (eq : AV → AV → Option Bool) (P : Program) (elem : TypeId) (n : Nat) (xs ys : List AV) : List Nat → Option Bool
  | [] => some true
  | i :: is => match partA P elem xs (i * n), partA P elem ys (i * n) with
    | some x, some y => match eq x y with
      | some true => eqItemsA eq P elem n xs ys is
      | some false => some false
      | none => none
    | _, _ => none

def eqA (P : Program) : Nat → TypeId → AV → AV → Option Bool
  | 0, _, _, _ => none
  | d + 1, t, x, y =>
    match P.underlying t, x, y with
    | some .bool, .bool a, .bool b => some (a == b)
    | some (.int _), .int k a, .int k' b => if k = k' then some (a == b) else none
    | some .string, .str a, .str b => some (a == b)
    | some (.struct fields), .agg xs, .agg ys => if P.stoodInHeld t then none else eqFieldsA (eqA P d) P xs ys fields.toList
    | some (.array len elem), .agg xs, .agg ys => match tsz P elem with
      | some n => eqItemsA (eqA P d elem) P elem n xs ys (List.range len)
      | none => none
    | _, _, _ => none

def eqRead (a b : Nat × Nat) : List AObj → Option AV
  | [.cells c _ true false, .cells d _ true false] => if a.2 < c.length && b.2 < d.length then some (.bool false) else none
  | _ => none

/-- '==', with what it has to look at. -/
def eqSem (P : Program) (t : TypeId) (x y : AV) (neg : Bool) : Option Sm :=
  match P.underlying t, x, y with
  | some (.pointer _), .ptr none, .ptr b => some (.pure (.bool (b.isNone != neg)))
  | some (.pointer _), .ptr (some _), .ptr none => some (.pure (.bool (false != neg)))
  | some (.pointer e), .ptr (some a), .ptr (some b) =>
    if (tsz P e).getD 0 = 0 then none else
    if a.1 = b.1 then some (.pure (.bool ((a.2 == b.2) != neg))) else
    some (.read [a.1, b.1] fun os => match eqRead a b os with | some _ => some (.bool (false != neg)) | none => none)
  | some (.slice _), .slice none _ _ _, .slice b _ _ _ => some (.pure (.bool (b.isNone != neg)))
  | some (.slice _), .slice (some _) _ _ _, .slice none _ _ _ => some (.pure (.bool (false != neg)))
  | some (.map _ _), .map none, .map b => some (.pure (.bool (b.isNone != neg)))
  | some (.map _ _), .map (some _), .map none => some (.pure (.bool (false != neg)))
  | some (.func _ _ _), .nilFunc, .nilFunc => some (.pure (.bool (true != neg)))
  | some (.func _ _ _), .nilFunc, .func _ _ _ => some (.pure (.bool (false != neg)))
  | some (.func _ _ _), .func _ _ _, .nilFunc => some (.pure (.bool (false != neg)))
  | some (.struct _), .agg _, .agg _ | some (.array _ _), .agg _, .agg _ =>
    if P.eqGuardType P.depth t then none else
    match eqA P 8 t x y with
    | some r => some (.pure (.bool (r != neg)))
    | none => none
  | _, _, _ => none

def strOp (op : BinOp) (x y : List UInt8) : Option AV :=
  match op with
  | .add => if x.length + y.length ≤ 2 ^ 62 then some (.str (x ++ y)) else none
  | .eql => some (.bool (x == y))
  | .neq => some (.bool !(x == y))
  | .lss => some (.bool (Op.bytesLess x y))
  | .leq => some (.bool (Op.bytesLess x y || x == y))
  | .gtr => some (.bool !(Op.bytesLess x y || x == y))
  | .geq => some (.bool !(Op.bytesLess x y))
  | _ => none

def intOp (op : BinOp) (k : IntKind) (a b : Int) : Option AV :=
  match op with
  | .add => some (.int k (k.wrap (a + b)))
  | .sub => some (.int k (k.wrap (a - b)))
  | .mul => some (.int k (k.wrap (a * b)))
  | .quo => if b = 0 then none else some (.int k (k.wrap (a.tdiv b)))
  | .rem => if b = 0 then none else some (.int k (a.tmod b))
  | .and => some (.int k (k.wrap (BitVec.ofInt k.bits a &&& BitVec.ofInt k.bits b).toNat))
  | .or => some (.int k (k.wrap (BitVec.ofInt k.bits a ||| BitVec.ofInt k.bits b).toNat))
  | .xor => some (.int k (k.wrap (BitVec.ofInt k.bits a ^^^ BitVec.ofInt k.bits b).toNat))
  | .andNot => some (.int k (k.wrap (BitVec.ofInt k.bits a &&& ~~~(BitVec.ofInt k.bits b)).toNat))
  | .eql => some (.bool (a == b))
  | .neq => some (.bool (a != b))
  | .lss => some (.bool (a < b))
  | .leq => some (.bool (a ≤ b))
  | .gtr => some (.bool (a > b))
  | .geq => some (.bool (a ≥ b))
  | _ => none

def shiftOp (op : BinOp) (k : IntKind) (a b : Int) : Option AV :=
  if b < 0 then none else
  match op with
  | .shl => some (.int k (k.wrap (a * 2 ^ (min b.toNat k.bits))))
  | .shr => some (.int k (a.fdiv (2 ^ (min b.toNat k.bits))))
  | _ => none

def binSem (P : Program) (op : BinOp) (t : TypeId) (x y : AV) : Option Sm :=
  match op, x, y with
  | .shl, .int k a, .int _ b | .shr, .int k a, .int _ b => (shiftOp op k a b).map .pure
  | _, .int k a, .int k' b => if k = k' then (intOp op k a b).map .pure else none
  | _, .str a, .str b => (strOp op a b).map .pure
  | .eql, .bool a, .bool b => match P.underlying t with
    | some .bool => some (.pure (.bool (a == b)))
    | _ => none
  | .neq, .bool a, .bool b => match P.underlying t with
    | some .bool => some (.pure (.bool !(a == b)))
    | _ => none
  | .eql, x, y => eqSem P t x y false
  | .neq, x, y => eqSem P t x y true
  | _, _, _ => none

def unSem (op : UnOp) (x : AV) : Option AV :=
  match op, x with
  | .not, .bool b => some (.bool !b)
  | .neg, .int k n => some (.int k (k.wrap (0 - n)))
  | .xor, .int k n => some (.int k (k.wrap (BitVec.ofInt k.bits (if k.signed then -1 else k.max) ^^^ BitVec.ofInt k.bits n).toNat))
  | _, _ => none

def bytesOfCells : List AV → Option (List UInt8)
  | [] => some []
  | .int .u8 n :: r => match bytesOfCells r with
    | some bs => some (UInt8.ofNat n.toNat :: bs)
    | none => none
  | _ => none

def cellsOfBytes (s : List UInt8) : List AV := s.map fun b => .int .u8 b.toNat

def convSem (P : Program) (src dst : TypeId) (x : AV) : Option Sm :=
  match P.underlying src, P.underlying dst, x with
  | some _, some (.int k), .int _ n => some (.pure (.int k (k.wrap n)))
  | some _, some .string, .str s => some (.pure (.str s))
  | some _, some (.slice e), .str s => match P.underlying e with
    | some (.int .u8) => if tsz P e = some 1 ∧ s.length ≤ 2 ^ 62 then some (.alloc (.cells (cellsOfBytes s) e true true) fun n => .slice (some (n, 0)) s.length s.length (some 1)) else none
    | _ => none
  | some (.slice _), some (.slice e), .slice (some a) n c ex => if src = dst ∧ 0 < c then
      match P.underlying e with
      | some (.int .u8) => some (.heavy fun H => match H.get a.1 with
        | some (.cells cs el true _) => some (.slice (some a) n c ex, H.set a.1 (.cells cs el true true))
        | _ => none)
      | _ => none
    else none
  | some (.slice e), some .string, .slice a n _ _ => match P.underlying e, a with
    | some (.int .u8), none => some (.pure (.str []))
    | some (.int .u8), some (b, o) => some (.read [b] fun
      | [.cells c _ _ _] => if o + n ≤ c.length then (bytesOfCells ((c.drop o).take n)).map .str else none
      | _ => none)
    | _, _ => none
  | _, _, _ => none

/-- a bound of a slice expression -/
def boundA (x : AV) (y : Nat) : Option Nat :=
  match x with
  | .int _ i => if 0 ≤ i ∧ i ≤ y then some i.toNat else none
  | _ => none

def boundsA (len cap : Nat) (lo hi mx : Option AV) : Option (Nat × Nat × Nat) :=
  match (match mx with | some v => boundA v cap | none => some cap) with
  | none => none
  | some m =>
    match (match hi, mx with | some v, some _ => boundA v m | some v, none => boundA v cap | none, none => some len | none, some _ => none) with
    | none => none
    | some h =>
      match (match lo with | some v => boundA v h | none => some 0) with
      | none => none
      | some l => some (l, h, m)

def evOpt (P : Program) (T : List AV) : Option Operand → Option (Option AV)
  | none => some none
  | some x => (ev P T x).map some

def sliceSem (P : Program) (t : TypeId) (x : AV) (lo hi mx : Option AV) : Option AV :=
  match P.underlying t, x with
  | some (.array n elem), .ptr (some (b, o)) => match boundsA n n lo hi mx, tsz P elem with
    | some (l, h, m), some size => some (.slice (some (b, o + l * size)) (h - l) (m - l) none)
    | _, _ => none
  | some .string, .str s => match mx, boundsA s.length s.length lo hi none with
    | none, some (l, h, _) => some (.str ((s.take h).drop l))
    | _, _ => none
  | some (.slice elem), .slice a len cap ex => match boundsA len cap lo hi mx, tsz P elem with
    | some (l, h, m), some size => match a with
      | none => some (.slice none 0 0 none)
      | some (b, o) => if ex.isNone || ex == some size then some (.slice (some (b, o + l * size)) (h - l) (m - l) (if mx.isSome then none else ex)) else none
    | _, _ => none
  | _, _ => none

def indexAddrSem (P : Program) (t : TypeId) (x ix : AV) : Option AV :=
  match P.underlying t, x, ix with
  | some (.array len elem), .ptr (some (b, o)), .int _ i => match tsz P elem with
    | some size => if 0 ≤ i ∧ i < len then some (.ptr (some (b, o + i.toNat * size))) else none
    | none => none
  | some (.slice elem), .slice (some (b, o)) len _ _, .int _ i => match tsz P elem with
    | some size => if 0 ≤ i ∧ i < len then some (.ptr (some (b, o + i.toNat * size))) else none
    | none => none
  | _, _, _ => none

def indexSem (P : Program) (t : TypeId) (x ix : AV) : Option AV :=
  match P.underlying t, x, ix with
  | some (.array len elem), .agg cs, .int _ i => match tsz P elem with
    | some size => if 0 ≤ i ∧ i < len then partA P elem cs (i.toNat * size) else none
    | none => none
  | some .string, .str s, .int _ i => if 0 ≤ i then match s[i.toNat]? with
      | some b => some (.int .u8 b.toNat)
      | none => none
    else none
  | _, _, _ => none

def keyEq : AV → AV → Option Bool
  | .int k a, .int k' b => if k = k' then some (a == b) else none
  | .str a, .str b => some (a == b)
  | .bool a, .bool b => some (a == b)
  | _, _ => none

def findA (k : AV) : List (AV × AV) → Nat → Option (Option (Nat × AV))
  | [], _ => some none
  | (x, v) :: r, i => match keyEq k x with
    | some true => some (some (i, v))
    | some false => findA k r (i + 1)
    | none => none

/-- a key of a plain kind, of the map's key type -/
def keyFits (P : Program) (t : TypeId) : AV → Bool
  | .int _ _ => match P.underlying t with | some (.int _) => true | _ => false
  | .str _ => match P.underlying t with | some .string => true | _ => false
  | .bool _ => match P.underlying t with | some .bool => true | _ => false
  | _ => false

def lookupSem (P : Program) (t : TypeId) (x k : AV) (ok : Bool) : Option Sm :=
  match P.underlying t with
  | some (.map key elem) => if keyFits P key k then
      match tzero P elem, x with
      | some z, .map none => some (.pure (if ok then .tuple [z, .bool false] else z))
      | some z, .map (some r) => some (.read [r] fun
        | [.map es] => match findA k es 0 with
          | some (some (_, v)) => some (if ok then .tuple [v, .bool true] else v)
          | some none => some (if ok then .tuple [z, .bool false] else z)
          | none => none
        | _ => none)
      | _, _ => none
    else none
  | _ => none

def mapSet (es : List (AV × AV)) (i : Nat) (k v : AV) : List (AV × AV) := es.set i (k, v)

def updateSem (P : Program) (t : TypeId) (m k v : AV) : Option Sm :=
  match P.underlying t, m with
  | some (.map key _), .map (some r) => if keyFits P key k then
      some (.heavy fun H => match H.get r with
        | some (.map es) => match findA k es 0 with
          | some (some (i, _)) => some (.undef, H.set r (.map (mapSet es i k v)))
          | some none => some (.undef, H.set r (.map (es ++ [(k, v)])))
          | none => none
        | _ => none)
    else none
  | _, _ => none

def makeSliceSem (P : Program) (t : TypeId) (len cap : AV) : Option Sm :=
  match P.underlying t, len, cap with
  | some (.slice elem), .int _ l, .int _ c => match tbytes P elem, tsz P elem, tzero P elem with
    | some bytes, some size, some z =>
      if 0 ≤ l ∧ l ≤ c ∧ c ≤ 2 ^ 47 ∧ bytes * c ≤ 2 ^ 48 ∧ z.cells.length = size then
        some (.alloc (.cells (zeros z.cells c.toNat) elem true false) fun n => .slice (some (n, 0)) l.toNat c.toNat none)
      else none
    | _, _, _ => none
  | _, _, _ => none

/-! ## builtins -/
def srcLen : AV → Option Nat
  | .slice _ n _ _ => some n
  | .str s => some s.length
  | _ => none

def srcCells (H : Heap) (size n : Nat) : AV → Option (List AV)
  | .slice none _ _ _ => some []
  | .slice (some (b, o)) len _ _ => if n * size = 0 then some [] else if n ≤ len then cellsAt H b o (n * size) else none
  | .str s => some (cellsOfBytes (s.take n))
  | _ => none

/-- the growing arm: is the sum of the bytes within what Go's growslice takes, whatever the capacity was? -/
def growFits (need cap bytes : Nat) (known : Bool) : Bool :=
  need ≤ 2 ^ 62 && ((need * bytes ≤ 2 ^ 46 && (need ≤ 2 ^ 46)) || (known && cap == 0 && need * bytes ≤ 2 ^ 48))

def appendA (elem : TypeId) (size bytes : Nat) (base : Option (Nat × Nat)) (sLen sCap : Nat) (sl : Option Nat) (n : Nat) (new : List AV) (H : Heap) : Option (AV × Heap) :=
  if sLen + n ≤ sCap then
    match base with
    | none => some (.slice none 0 0 none, H)
    | some (b, o) => match writeCells H b (o + sLen * size) new with
      | some H' => some (.slice (some (b, o)) (sLen + n) sCap sl, H')
      | none => none
  else if growFits (sLen + n) sCap bytes (base.isNone || sl.isNone) then
    match srcCells H size sLen (.slice base sLen sCap sl) with
    | none => none
    | some old => match base, sl with
      | some (b, o), some s => match H.get b with
        | some (.cells c _ true false) => if s = size ∧ o + sLen * size ≤ c.length ∧ new.all AV.one then some (.slice (some (H.next, 0)) (sLen + n) (sLen + n) (some size), (H.set b .dead).push (.cells (old ++ new) elem true false)) else none
        | _ => none
      | _, _ => some (.slice (some (H.next, 0)) (sLen + n) (sLen + n) (some size), H.push (.cells (old ++ new) elem true false))
  else none

/-- 'append(s, make([]T, n)...)' is handed n itself. -/
def isCount (P : Program) (u : Option TypeId) : Bool :=
  match u with
  | some u => match P.underlying u with
    | some (.int _) => true
    | _ => false
  | none => false

def appendSem (P : Program) (ts : Array TypeId) (s x : AV) : Option Sm :=
  match ts[0]? with
  | none => none
  | some t => match P.underlying t with
    | some (.slice elem) => match tsz P elem, tbytes P elem, tzero P elem, s with
      | some size, some bytes, some z, .slice base sLen sCap ex =>
        if z.cells.length ≠ size then none else
        if isCount P ts[1]? then match x with
          | .int _ l => if 0 ≤ l ∧ l ≤ 2 ^ 47 ∧ l * bytes ≤ 2 ^ 48 then
              some (.heavy fun H => appendA elem size bytes base sLen sCap ex l.toNat (zeros z.cells l.toNat) H) else none
          | _ => none
        else match ts[1]? with
          | some u => match P.underlying u, srcLen x with
            | some _, some n => some (.heavy fun H => match srcCells H size n x with
              | some new => if new.length = n * size then appendA elem size bytes base sLen sCap ex n new H else none
              | none => none)
            | _, _ => none
          | none => none
      | _, _, _, _ => none
    | _ => none

def copySem (P : Program) (ts : Array TypeId) (d x : AV) : Option Sm :=
  match ts[0]? with
  | none => none
  | some t => match P.underlying t, d, srcLen x with
    | some (.slice elem), .slice base dLen _ _, some m => match tsz P elem with
      | some size => some (.heavy fun H => match srcCells H size (Nat.min m dLen) x with
        | some cells => if cells.length ≠ Nat.min m dLen * size then none else
          match base with
          | none => some (.int .i64 (Nat.min m dLen : Nat), H)
          | some (b, o) => match writeCells H b o cells with
            | some H' => some (.int .i64 (Nat.min m dLen : Nat), H')
            | none => none
        | none => none)
      | none => none
    | _, _, _ => none

def clearSem (P : Program) (ts : Array TypeId) (x : AV) : Option Sm :=
  match ts[0]? with
  | none => none
  | some t => match P.underlying t, x with
    | some _, .map none => some (.pure .undef)
    | some _, .slice none _ _ _ => some (.pure .undef)
    | some (.map _ _), .map (some r) => some (.heavy fun H => match H.get r with
      | some (.map _) => some (.undef, H.set r (.map []))
      | _ => none)
    | some (.slice elem), .slice (some (b, o)) n _ _ => if n = 0 then some (.pure .undef) else
      match tzero P elem, tsz P elem with
      | some z, some size => if z.cells.length ≠ size then none else some (.heavy fun H => match writeCells H b o (zeros z.cells n) with
        | some H' => some (.undef, H')
        | none => none)
      | _, _ => none
    | _, _ => none

def deleteSem (P : Program) (ts : Array TypeId) (m k : AV) : Option Sm :=
  match ts[0]? with
  | none => none
  | some t => match P.underlying t, m with
    | some (.map key _), .map none => if keyFits P key k then some (.pure .undef) else none
    | some (.map key _), .map (some r) => if keyFits P key k then
        some (.heavy fun H => match H.get r with
          | some (.map es) => match findA k es 0 with
            | some (some (i, _)) => some (.undef, H.set r (.map (es.eraseIdx i)))
            | some none => some (.undef, H)
            | none => none
          | _ => none)
      else none
    | _, _ => none

def lenSem (P : Program) (ts : Array TypeId) (x : AV) : Option Sm :=
  match ts[0]? with
  | none => none
  | some t => match P.underlying t, x with
    | some .string, .str s => some (.pure (.int .i64 s.length))
    | some (.slice _), .slice _ n _ _ => some (.pure (.int .i64 n))
    | some (.map _ _), .map none => some (.pure (.int .i64 0))
    | some (.map _ _), .map (some r) => some (.read [r] fun
      | [.map es] => some (.int .i64 es.length)
      | _ => none)
    | some (.array n _), _ => some (.pure (.int .i64 n))
    | some (.pointer arr), _ => match P.underlying arr with
      | some (.array n _) => some (.pure (.int .i64 n))
      | _ => none
    | _, _ => none

def capSem (P : Program) (ts : Array TypeId) (x : AV) : Option Sm :=
  match ts[0]? with
  | none => none
  | some t => match P.underlying t, x with
    | some (.slice _), .slice none _ _ _ => some (.pure (.int .i64 0))
    | some (.slice _), .slice (some _) _ c none => some (.pure (.int .i64 c))
    | some (.array n _), _ => some (.pure (.int .i64 n))
    | _, _ => none

def maxA : AV → List AV → Option AV
  | x, [] => some x
  | .int k x, .int k' y :: r => if k = k' then maxA (.int k (if y > x then y else x)) r else none
  | _, _ => none

def minA : AV → List AV → Option AV
  | x, [] => some x
  | .int k x, .int k' y :: r => if k = k' then minA (.int k (if y < x then y else x)) r else none
  | _, _ => none

def builtinSem (P : Program) (b : Builtin) (ts : Array TypeId) (args : List AV) : Option Sm :=
  match b, args with
  | .append, [s, x] => appendSem P ts s x
  | .copy, [d, x] => copySem P ts d x
  | .clear, [x] => clearSem P ts x
  | .delete, [m, k] => deleteSem P ts m k
  | .len, [x] => lenSem P ts x
  | .cap, [x] => capSem P ts x
  | .max, x :: r => (maxA x r).map .pure
  | .min, x :: r => (minA x r).map .pure
  | _, _ => none

abbrev CallFn := FuncId → List AV → Heap → Option (AV × Heap)

def callSem (P : Program) (call : CallFn) (T : List AV) (c : Call) : Option Sm :=
  match mapOpt (ev P T) c.args.toList with
  | none => none
  | some args => match c.callee with
    | .builtin b => builtinSem P b c.argTypes args
    | .value f => match ev P T f with
      | some (.func (.func g) first captured) => some (.heavy fun H => call g (first ++ args ++ captured) H)
      | _ => none
    | .invoke _ _ => none

def sem (P : Program) (call : CallFn) (T : List AV) (op : Op) : Option Sm :=
  match op with
  | .move x | .assign x => (ev P T x).map .pure
  | .pick c a b => match ev P T c, ev P T a, ev P T b with
    | some (.bool t), some x, some y => some (.pure (if t then x else y))
    | _, _, _ => none
  | .alloc e => (tzero P e).map fun z => .alloc (.cells z.cells e true false) fun n => .ptr (some (n, 0))
  | .box e x => (ev P T x).map fun v => .alloc (.cells v.cells e true false) fun n => .ptr (some (n, 0))
  | .build t parts => match evParts P T parts.toList with
    | some ps => (buildA P t ps).map .pure
    | none => none
  | .buildSlice t len parts => match evParts P T parts.toList with
    | some ps => buildSliceA P t len ps
    | none => none
  | .load t a => match ev P T a, tagg P t, tsz P t with
    | some (.ptr (some (b, o))), some g, some n => some (.read [b] fun
      | [x] => readVar g n o x
      | _ => none)
    | _, _, _ => none
  | .store t a x => match ev P T a, ev P T x, tsz P t with
    | some (.ptr (some (b, o))), some v, some n => if v.cells.length ≠ n then none else
      some (.heavy fun H => match writeCells H b o v.cells with
        | some H' => some (.undef, H')
        | none => none)
    | _, _, _ => none
  | .nilCheck x => match ev P T x with
    | some (.ptr (some a)) => some (.pure (.ptr (some a)))
    | some (.func (.func f) xs ys) => some (.pure (.func (.func f) xs ys))
    | _ => none
  | .binOp op t x y _ => match ev P T x, ev P T y with
    | some a, some b => binSem P op t a b
    | _, _ => none
  | .unOp op _ x => match ev P T x with
    | some v => (unSem op v).map .pure
    | none => none
  | .convert src dst x => match ev P T x with
    | some v => convSem P src dst v
    | none => none
  | .sliceToArrayPointer arr x => match P.underlying arr, ev P T x with
    | some (.array n _), some (.slice (some a) len _ _) => if len < n then none else if n = 0 then none else some (.pure (.ptr (some a)))
    | _, _ => none
  | .makeInterface t x => match P.underlying t, ev P T x with
    | some (.interface _), _ => none
    | some _, some v => some (.pure (.iface t v))
    | _, _ => none
  | .makeFunc fn first captured => match mapOpt (ev P T) first.toList, mapOpt (ev P T) captured.toList with
    | some a, some b => some (.pure (.func fn a b))
    | _, _ => none
  | .makeMap t r => match P.underlying t, r with
    | some (.map _ _), none => some (.alloc (.map []) fun n => .map (some n))
    | some (.map _ _), some x => match ev P T x with
      | some (.int _ _) => some (.alloc (.map []) fun n => .map (some n))
      | _ => none
    | _, _ => none
  | .makeSlice t l c => match ev P T l, ev P T c with
    | some a, some b => makeSliceSem P t a b
    | _, _ => none
  | .slice t x lo hi mx => match ev P T x, evOpt P T lo, evOpt P T hi, evOpt P T mx with
    | some v, some l, some h, some m => (sliceSem P t v l h m).map .pure
    | _, _, _, _ => none
  | .fieldAddr s x f => match P.underlying s, ev P T x with
    | some (.struct fields), some (.ptr (some (b, o))) => match fields[f]? with
      | some fd => if (tsz P fd.type).getD 0 = 0 then none else some (.pure (.ptr (some (b, o + fd.offset))))
      | none => none
    | _, _ => none
  | .field t x f => match P.underlying t, ev P T x with
    | some (.struct fields), some (.agg cs) => match fields[f]? with
      | some fd => (partA P fd.type cs fd.offset).map .pure
      | none => none
    | _, _ => none
  | .indexAddr t x ix => match ev P T x, ev P T ix with
    | some a, some b => (indexAddrSem P t a b).map .pure
    | _, _ => none
  | .index t x ix => match ev P T x, ev P T ix with
    | some a, some b => (indexSem P t a b).map .pure
    | _, _ => none
  | .lookup t x k ok => match ev P T x, ev P T k with
    | some a, some b => lookupSem P t a b ok
    | _, _ => none
  | .mapUpdate t m k x | .insert t m k x => match ev P T m, ev P T k, ev P T x with
    | some a, some b, some v => updateSem P t a b v
    | _, _, _ => none
  | .extract t ix => match ev P T t with
    | some (.tuple vs) => (vs[ix]?).map .pure
    | _ => none
  | .call c => callSem P call T c
  | _ => none

/-! ## regions -/
def put (T : List AV) (d : Option Tmp) (v : AV) : List AV :=
  match d with
  | some d => T.set d v
  | none => T

def yieldedA (ops : Array Oper) (T : List AV) (j : Nat) : Option Bool :=
  match ops[j]? with
  | some o => match o.dst with
    | some d => match T[d]? with
      | some (.bool b) => some b
      | _ => none
    | none => none
  | none => none

def wantedA (ops : Array Oper) (T : List AV) (o : Oper) : Bool :=
  match o.guard with
  | none => true
  | some (j, want) => yieldedA ops T j == some want

def runOp (P : Program) (call : CallFn) (T : List AV) (o : Oper) (H : Heap) : Option (AV × Heap) :=
  match sem P call T o.op with
  | some s => s.run H
  | none => none

def runOps (P : Program) (call : CallFn) (ops : Array Oper) : List Oper → List AV → Heap → Option (List AV × Heap)
  | [], T, H => some (T, H)
  | o :: os, T, H =>
    if wantedA ops T o then
      match runOp P call T o H with
      | some (v, H') => runOps P call ops os (put T o.dst v) H'
      | none => none
    else runOps P call ops os (put T o.dst .undef) H

end Go.Abs

/- What it means that a world bears an abstract memory; that a run keeps what is not its own. -/
namespace Go.Abs
set_option linter.unusedVariables false

/-- Where an abstract block lies: in which block of the world, from which cell on, and how many cells are its own. -/
structure Place where
  blk : Nat
  off : Nat
  tot : Nat

abbrev Map := Nat → Option Place

mutual
def VRel (ρ : Map) : AV → Value → Prop
  | .bool b, v => v = .bool b
  | .int k n, v => v = .int k n
  | .str s, v => v = .string ⟨s.toArray⟩
  | .ptr none, v => v = .pointer none
  | .ptr (some a), v => ∃ p, ρ a.1 = some p ∧ v = .pointer (some ⟨p.blk, p.off + a.2, none⟩)
  | .slice none n c _, v => n = 0 ∧ c = 0 ∧ v = .slice none 0 0
  | .slice (some a) n c sl, v => ∃ p x c', ρ a.1 = some p ∧ v = .slice (some x) n c' ∧ n ≤ c ∧ c ≤ c' ∧
      (c' = 0 ∨ x = ⟨p.blk, p.off + a.2, none⟩) ∧ (c' = c ∨ ∃ s, sl = some s ∧ a.2 + c' * s ≤ p.tot)
  | .map none, v => v = .map none
  | .map (some r), v => ∃ p, ρ r = some p ∧ p.off = 0 ∧ v = .map (some p.blk)
  | .func f xs ys, v => ∃ us vs, v = .func f us vs ∧ VRels ρ xs us.toList ∧ VRels ρ ys vs.toList
  | .nilFunc, v => v = .nilFunc
  | .iface t x, v => ∃ y, v = .iface t y ∧ VRel ρ x y
  | .nilIface, v => v = .nilIface
  | .agg cs, v => ∃ ds, v = .agg ds ∧ VRels ρ cs ds.toList
  | .tuple cs, v => ∃ ds, v = .tuple ds ∧ VRels ρ cs ds.toList
def VRels (ρ : Map) : List AV → List Value → Prop
  | [], l => l = []
  | x :: xs, l => ∃ y ys, l = y :: ys ∧ VRel ρ x y ∧ VRels ρ xs ys
end

def Ext (ρ ρ' : Map) : Prop := ∀ b p, ρ b = some p → ρ' b = some p

theorem Ext.refl (ρ : Map) : Ext ρ ρ := fun _ _ h => h
theorem Ext.trans {ρ ρ' ρ'' : Map} (h : Ext ρ ρ') (h' : Ext ρ' ρ'') : Ext ρ ρ'' := fun b p x => h' b p (h b p x)

mutual
theorem VRel.mono {ρ ρ' : Map} (e : Ext ρ ρ') : ∀ (a : AV) (v : Value), VRel ρ a v → VRel ρ' a v
  | .bool _, _, h => h
  | .int _ _, _, h => h
  | .str _, _, h => h
  | .ptr none, _, h => h
  | .ptr (some _), _, ⟨p, h, r⟩ => ⟨p, e _ _ h, r⟩
  | .slice none _ _ _, _, h => h
  | .slice (some _) _ _ _, _, ⟨p, x, c', h, r⟩ => ⟨p, x, c', e _ _ h, r⟩
  | .map none, _, h => h
  | .map (some _), _, ⟨p, h, r⟩ => ⟨p, e _ _ h, r⟩
  | .func _ xs ys, _, ⟨us, vs, h, a, b⟩ => ⟨us, vs, h, VRels.mono e xs _ a, VRels.mono e ys _ b⟩
  | .nilFunc, _, h => h
  | .iface _ x, _, ⟨y, h, a⟩ => ⟨y, h, VRel.mono e x _ a⟩
  | .nilIface, _, h => h
  | .agg cs, _, ⟨ds, h, a⟩ => ⟨ds, h, VRels.mono e cs _ a⟩
  | .tuple cs, _, ⟨ds, h, a⟩ => ⟨ds, h, VRels.mono e cs _ a⟩
theorem VRels.mono {ρ ρ' : Map} (e : Ext ρ ρ') : ∀ (l : List AV) (m : List Value), VRels ρ l m → VRels ρ' l m
  | [], _, h => h
  | x :: xs, _, ⟨y, ys, h, a, b⟩ => ⟨y, ys, h, VRel.mono e x _ a, VRels.mono e xs _ b⟩
end

theorem VRels.length {ρ : Map} : ∀ {l : List AV} {m : List Value}, VRels ρ l m → m.length = l.length
  | [], _, h => by cases h; rfl
  | _ :: _, _, ⟨_, _, h, _, b⟩ => by subst h; simp [VRels.length b]

theorem VRels.get {ρ : Map} : ∀ {l : List AV} {m : List Value} (i : Nat) (a : AV), VRels ρ l m → l[i]? = some a → ∃ v, m[i]? = some v ∧ VRel ρ a v
  | [], _, i, a, h, e => by simp at e
  | x :: xs, _, 0, a, ⟨y, ys, h, hx, _⟩, e => by subst h; simp at e; subst e; exact ⟨y, by simp, hx⟩
  | x :: xs, _, i + 1, a, ⟨y, ys, h, _, hs⟩, e => by subst h; simp at e; simpa using VRels.get i a hs e

theorem VRels.mk {ρ : Map} : ∀ {l : List AV} {m : List Value}, m.length = l.length → (∀ (i : Nat) (a : AV) (v : Value), l[i]? = some a → m[i]? = some v → VRel ρ a v) → VRels ρ l m
  | [], m, h, _ => by simpa [VRels] using h
  | x :: xs, [], h, _ => by simp at h
  | x :: xs, y :: ys, h, g => ⟨y, ys, rfl, g 0 x y (by simp) (by simp), VRels.mk (by simpa using h) fun i a v ha hv => g (i + 1) a v (by simpa using ha) (by simpa using hv)⟩

theorem VRels.append {ρ : Map} : ∀ {l l' : List AV} {m m' : List Value}, VRels ρ l m → VRels ρ l' m' → VRels ρ (l ++ l') (m ++ m')
  | [], _, _, _, h, h' => by cases h; simpa using h'
  | _ :: _, _, _, _, ⟨y, ys, h, a, b⟩, h' => by subst h; exact ⟨y, ys ++ _, rfl, a, VRels.append b h'⟩

theorem VRels.take {ρ : Map} : ∀ {l : List AV} {m : List Value} (n : Nat), VRels ρ l m → VRels ρ (l.take n) (m.take n)
  | [], _, n, h => by cases h; simp [VRels]
  | _ :: _, _, 0, _ => by simp [VRels]
  | _ :: _, _, n + 1, ⟨y, ys, h, a, b⟩ => by subst h; exact ⟨y, _, rfl, a, VRels.take n b⟩

theorem VRels.drop {ρ : Map} : ∀ {l : List AV} {m : List Value} (n : Nat), VRels ρ l m → VRels ρ (l.drop n) (m.drop n)
  | [], _, n, h => by cases h; simp [VRels]
  | _ :: _, _, 0, h => by simpa using h
  | _ :: _, _, n + 1, ⟨y, ys, h, a, b⟩ => by subst h; simpa using VRels.drop n b

theorem VRels.set {ρ : Map} : ∀ {l : List AV} {m : List Value} (i : Nat) {a : AV} {v : Value}, VRels ρ l m → VRel ρ a v → VRels ρ (l.set i a) (m.set i v)
  | [], _, i, a, v, h, _ => by cases h; simp [VRels]
  | _ :: _, _, 0, a, v, ⟨y, ys, h, _, b⟩, g => by subst h; exact ⟨v, ys, rfl, g, b⟩
  | _ :: _, _, i + 1, a, v, ⟨y, ys, h, x, b⟩, g => by subst h; exact ⟨y, _, rfl, x, VRels.set i b g⟩

theorem VRels.map_eq {ρ : Map} {α : Type} (f : α → AV) (g : α → Value) (h : ∀ x, VRel ρ (f x) (g x)) : ∀ l : List α, VRels ρ (l.map f) (l.map g)
  | [] => rfl
  | x :: xs => ⟨g x, _, rfl, h x, VRels.map_eq f g h xs⟩

theorem VRel.undef (ρ : Map) : VRel ρ .undef (Go.undef) := ⟨#[], rfl, rfl⟩

/-- The parts of a value. -/
theorem VRel.cells {ρ : Map} : ∀ {a : AV} {v : Value}, VRel ρ a v → VRels ρ a.cells v.cells.toList := by
  intro a v h
  cases a
  case agg cs => obtain ⟨ds, rfl, h⟩ := h; exact h
  case bool b => cases h; exact ⟨_, [], rfl, rfl, rfl⟩
  case int k n => cases h; exact ⟨_, [], rfl, rfl, rfl⟩
  case str s => cases h; exact ⟨_, [], rfl, rfl, rfl⟩
  case nilFunc => cases h; exact ⟨_, [], rfl, rfl, rfl⟩
  case nilIface => cases h; exact ⟨_, [], rfl, rfl, rfl⟩
  case ptr o => cases o with
    | none => cases h; exact ⟨_, [], rfl, rfl, rfl⟩
    | some o => obtain ⟨p, hp, rfl⟩ := h; exact ⟨_, [], rfl, ⟨p, hp, rfl⟩, rfl⟩
  case slice o n c sl => cases o with
    | none => obtain ⟨h1, h2, rfl⟩ := h; exact ⟨_, [], rfl, ⟨h1, h2, rfl⟩, rfl⟩
    | some o => obtain ⟨p, x, c', hp, rfl, r⟩ := h; exact ⟨_, [], rfl, ⟨p, x, c', hp, rfl, r⟩, rfl⟩
  case map o => cases o with
    | none => cases h; exact ⟨_, [], rfl, rfl, rfl⟩
    | some o => obtain ⟨p, hp, h0, rfl⟩ := h; exact ⟨_, [], rfl, ⟨p, hp, h0, rfl⟩, rfl⟩
  case func f xs ys => obtain ⟨us, vs, rfl, r⟩ := h; exact ⟨_, [], rfl, ⟨us, vs, rfl, r⟩, rfl⟩
  case iface t x => obtain ⟨y, rfl, r⟩ := h; exact ⟨_, [], rfl, ⟨y, rfl, r⟩, rfl⟩
  case tuple vs => obtain ⟨ds, rfl, r⟩ := h; exact ⟨_, [], rfl, ⟨ds, rfl, r⟩, rfl⟩

/-- A value of one cell is one in the world. -/
theorem VRel.one {ρ : Map} {a : AV} {v : Value} (h : VRel ρ a v) (ho : a.one = true) : (∀ cs, v ≠ .agg cs) ∧ (∀ cs, v ≠ .tuple cs) := by
  cases a
  case agg => simp [AV.one] at ho
  case tuple => simp [AV.one] at ho
  case bool => cases h; simp
  case int => cases h; simp
  case str => cases h; simp
  case nilFunc => cases h; simp
  case nilIface => cases h; simp
  case ptr o => cases o with
    | none => cases h; simp
    | some o => obtain ⟨p, hp, rfl⟩ := h; simp
  case slice o n c sl => cases o with
    | none => obtain ⟨_, _, rfl⟩ := h; simp
    | some o => obtain ⟨p, x, c', hp, rfl, r⟩ := h; simp
  case map o => cases o with
    | none => cases h; simp
    | some o => obtain ⟨p, hp, h0, rfl⟩ := h; simp
  case func f xs ys => obtain ⟨us, vs, rfl, r⟩ := h; simp
  case iface t x => obtain ⟨y, rfl, r⟩ := h; simp

/-! ## constants -/
theorem ofBasic_rel {v : Value} {a : AV} (h : ofBasic v = some a) (ρ : Map) : VRel ρ a v := by
  unfold ofBasic at h
  split at h <;> (first | (injection h with h; subst h; first | rfl | exact ⟨rfl, rfl, rfl⟩) | (exact absurd h (by simp)))

theorem mapOpt_some {α β : Type} {f : α → Option β} : ∀ {l : List α} {m : List β}, mapOpt f l = some m → m.length = l.length ∧ ∀ (i : Nat) (x : α), l[i]? = some x → ∃ y, f x = some y ∧ m[i]? = some y
  | [], m, h => by simp [mapOpt] at h; subst h; simp
  | x :: xs, m, h => by
    simp only [mapOpt] at h
    cases hx : f x with
    | none => simp [hx] at h
    | some y =>
      cases hs : mapOpt f xs with
      | none => simp [hx, hs] at h
      | some ys =>
        simp [hx, hs] at h
        subst h
        obtain ⟨hl, hg⟩ := mapOpt_some hs
        refine ⟨by simp [hl], fun i z hz => ?_⟩
        cases i with
        | zero => simp at hz; subst hz; exact ⟨y, hx, by simp⟩
        | succ i => simpa using hg i z (by simpa using hz)

theorem mapOpt_rel {ρ : Map} {α : Type} {f : α → Option AV} {g : α → Value} (h : ∀ x a, f x = some a → VRel ρ a (g x)) : ∀ {l : List α} {m : List AV}, mapOpt f l = some m → VRels ρ m (l.map g)
  | [], m, e => by simp [mapOpt] at e; subst e; rfl
  | x :: xs, m, e => by
    simp only [mapOpt] at e
    cases hx : f x with
    | none => simp [hx] at e
    | some y =>
      cases hs : mapOpt f xs with
      | none => simp [hx, hs] at e
      | some ys =>
        simp [hx, hs] at e
        subst e
        exact ⟨g x, _, rfl, h x y hx, mapOpt_rel h hs⟩

theorem ofConst_rel {v : Value} {a : AV} (h : ofConst v = some a) (ρ : Map) : VRel ρ a v := by
  unfold ofConst at h
  split at h
  · rename_i cs
    cases hm : mapOpt ofBasic cs.toList with
    | none => simp [hm] at h
    | some l =>
      simp [hm] at h
      subst h
      refine ⟨cs, rfl, ?_⟩
      have := mapOpt_rel (ρ := ρ) (g := id) (fun x a hx => ofBasic_rel hx ρ) hm
      simpa using this
  · exact ofBasic_rel h ρ

/-! ## memory -/
def AObj.own : AObj → Bool
  | .cells _ _ own _ => own
  | .map _ => true
  | .dead => false

def AObj.live : AObj → Bool
  | .dead => false
  | _ => true

def KRels (ρ : Map) : List (AV × AV) → List MapEntry → Prop
  | [], l => l = []
  | (k, v) :: r, l => ∃ e es, l = e :: es ∧ VRel ρ k e.key ∧ VRel ρ v e.val ∧ KRels ρ r es

theorem KRels.mono {ρ ρ' : Map} (e : Ext ρ ρ') : ∀ (l : List (AV × AV)) (m : List MapEntry), KRels ρ l m → KRels ρ' l m
  | [], _, h => h
  | (_, _) :: r, _, ⟨x, xs, h, a, b, c⟩ => ⟨x, xs, h, VRel.mono e _ _ a, VRel.mono e _ _ b, KRels.mono e r _ c⟩

/-- The cells from a place on bear these values. -/
def CRel (ρ : Map) (c : List AV) (C : Array Value) (off : Nat) : Prop :=
  ∀ i a, c[i]? = some a → ∃ v, C[off + i]? = some v ∧ VRel ρ a v

def ORel (ρ : Map) (w : World) (b : Nat) : AObj → Prop
  | .cells c _ own mk => ∃ p C e fr, ρ b = some p ∧ w.heap[p.blk]? = some (.cells C e fr) ∧ CRel ρ c C p.off ∧ p.off + c.length ≤ C.size ∧ c.length ≤ p.tot ∧
      (own = true → p.off + p.tot ≤ C.size ∧ (fr = (0, 0) ∨ (mk = true ∧ fr = (C.size, C.size + 1))))
  | .map es => ∃ p m clock, ρ b = some p ∧ p.off = 0 ∧ p.tot = 1 ∧ w.heap[p.blk]? = some (.map m clock) ∧ KRels ρ es m.toList
  | .dead => True

structure Sim (G : Nat) (ρ : Map) (H : Heap) (w : World) : Prop where
  obj : ∀ b o, H.get b = some o → ORel ρ w b o
  apart : ∀ b b' o o' p p', H.get b = some o → H.get b' = some o' → b ≠ b' → o.live = true → o'.own = true → ρ b = some p → ρ b' = some p' → p.blk ≠ p'.blk
  glob : ∀ g, g < G → ∃ p, ρ g = some p ∧ p.blk = g ∧ p.off = 0

/-- The world's block is the run's own. -/
def OwnsBlk (ρ : Map) (H : Heap) (B : Nat) : Prop := ∃ b o p, H.get b = some o ∧ o.own = true ∧ ρ b = some p ∧ p.blk = B

structure Keeps (ρ : Map) (H : Heap) (w : World) (ρ' : Map) (H' : Heap) (w' : World) : Prop where
  size : w.heap.size ≤ w'.heap.size
  kept : ∀ (B : Nat) (o : Obj), w.heap[B]? = some o → ¬ OwnsBlk ρ H B → w'.heap[B]? = some o
  owns : ∀ B, OwnsBlk ρ' H' B → w.heap.size ≤ B ∨ OwnsBlk ρ H B
  tape : w'.tape = w.tape
  os : w'.os = w.os
  output : w'.output = w.output

/-- A step of the abstract machine, and a step of the world that goes with it. -/
structure Good (G : Nat) (ρ : Map) (H : Heap) (w : World) (ρ' : Map) (H' : Heap) (w' : World) : Prop where
  sim : Sim G ρ' H' w'
  ext : Ext ρ ρ'
  out : ∀ b, (b < H.next ∨ H'.next ≤ b) → ρ' b = ρ b
  next : H.next ≤ H'.next
  dom : ∀ b, H.get b = none → (b < H.next ∨ H'.next ≤ b) → H'.get b = none
  ro : ∀ b o, H'.get b = some o → o.live = true → o.own = false → H.get b = some o
  keeps : Keeps ρ H w ρ' H' w'

theorem Keeps.refl (ρ : Map) (H : Heap) (w : World) : Keeps ρ H w ρ H w where
  size := Nat.le_refl _
  kept := fun _ _ h _ => h
  owns := fun _ h => .inr h
  tape := rfl
  os := rfl
  output := rfl

theorem heap_lt {w : World} {B : Nat} {o : Obj} (h : w.heap[B]? = some o) : B < w.heap.size := by
  obtain ⟨h, _⟩ := Array.getElem?_eq_some_iff.1 h
  exact h

theorem Keeps.trans {ρ ρ1 ρ2 : Map} {H H1 H2 : Heap} {w w1 w2 : World} (h : Keeps ρ H w ρ1 H1 w1) (g : Keeps ρ1 H1 w1 ρ2 H2 w2) : Keeps ρ H w ρ2 H2 w2 where
  size := Nat.le_trans h.size g.size
  kept := by
    intro B o hB ho
    refine g.kept B o (h.kept B o hB ho) fun hx => ?_
    rcases h.owns B hx with hge | hx
    · have := heap_lt hB; omega
    · exact ho hx
  owns := by
    intro B hx
    rcases g.owns B hx with hge | hx
    · left; have := h.size; omega
    · exact h.owns B hx
  tape := g.tape.trans h.tape
  os := g.os.trans h.os
  output := g.output.trans h.output

theorem Good.wf {G : Nat} {ρ ρ' : Map} {H H' : Heap} {w w' : World} (h : Good G ρ H w ρ' H' w') (hw : ∀ b, H.next ≤ b → H.get b = none) : ∀ b, H'.next ≤ b → H'.get b = none := by
  intro b hb
  have := h.next
  exact h.dom b (hw b (by omega)) (.inr hb)

theorem Good.refl {G : Nat} {ρ : Map} {H : Heap} {w : World} (h : Sim G ρ H w) : Good G ρ H w ρ H w where
  sim := h
  ext := Ext.refl ρ
  out := fun _ _ => rfl
  next := Nat.le_refl _
  dom := fun _ h _ => h
  ro := fun _ _ h _ _ => h
  keeps := Keeps.refl ρ H w

theorem Good.trans {G : Nat} {ρ ρ1 ρ2 : Map} {H H1 H2 : Heap} {w w1 w2 : World} (h : Good G ρ H w ρ1 H1 w1) (g : Good G ρ1 H1 w1 ρ2 H2 w2) : Good G ρ H w ρ2 H2 w2 where
  sim := g.sim
  ext := h.ext.trans g.ext
  out := by
    intro b hb
    have h1 := h.next
    have h2 := g.next
    rw [g.out b (by omega), h.out b (by omega)]
  next := Nat.le_trans h.next g.next
  dom := by
    intro b hb ho
    have h1 := h.next
    have h2 := g.next
    exact g.dom b (h.dom b hb (by omega)) (by omega)
  ro := fun b o ho hl hw => h.ro b o (g.ro b o ho hl hw) hl hw
  keeps := h.keeps.trans g.keeps

end Go.Abs

/- The steps of memory: a cell written, a block made, a block grown, a map changed: each keeps the bond between the two memories. -/
namespace Go.Abs
set_option linter.unusedVariables false

def upd (ρ : Map) (b : Nat) (p : Place) : Map := fun x => if x = b then some p else ρ x

theorem upd_same (ρ : Map) (b : Nat) (p : Place) : upd ρ b p b = some p := by simp [upd]
theorem upd_ne (ρ : Map) {b x : Nat} (p : Place) (h : x ≠ b) : upd ρ b p x = ρ x := by simp [upd, h]
theorem Ext.upd {ρ : Map} {b : Nat} (p : Place) (h : ρ b = none) : Ext ρ (upd ρ b p) := by
  intro x q hx
  by_cases e : x = b
  · subst e; rw [h] at hx; exact absurd hx (by simp)
  · rw [upd_ne ρ p e]; exact hx

theorem CRel.mono {ρ ρ' : Map} (e : Ext ρ ρ') {c : List AV} {C : Array Value} {off : Nat} (h : CRel ρ c C off) : CRel ρ' c C off := by
  intro i a ha
  obtain ⟨v, hv, r⟩ := h i a ha
  exact ⟨v, hv, VRel.mono e _ _ r⟩

/-- More memory, and more places: what was borne is borne. -/
theorem ORel.grow {ρ ρ' : Map} {w w' : World} (e : Ext ρ ρ') (h : ∀ (B : Nat) (o : Obj), w.heap[B]? = some o → w'.heap[B]? = some o) {b : Nat} : ∀ {o : AObj}, ORel ρ w b o → ORel ρ' w' b o := by
  intro o
  cases o with
  | cells c el own mk =>
    rintro ⟨p, C, e', fr, hp, hh, hc, hl, ht, ho⟩
    exact ⟨p, C, e', fr, e _ _ hp, h _ _ hh, hc.mono e, hl, ht, ho⟩
  | map es =>
    rintro ⟨p, m, k, hp, h0, h1, hh, hk⟩
    exact ⟨p, m, k, e _ _ hp, h0, h1, h _ _ hh, KRels.mono e _ _ hk⟩
  | dead => exact fun _ => trivial

/-- A live block's place is a block of the world. -/
theorem Sim.place {G : Nat} {ρ : Map} {H : Heap} {w : World} (hs : Sim G ρ H w) {b : Nat} {o : AObj} (h : H.get b = some o) (hl : o.live = true) : ∃ p O, ρ b = some p ∧ w.heap[p.blk]? = some O := by
  have := hs.obj b o h
  cases o with
  | cells c el own mk => obtain ⟨p, C, e', fr, hp, hh, _⟩ := this; exact ⟨p, _, hp, hh⟩
  | map es => obtain ⟨p, m, k, hp, _, _, hh, _⟩ := this; exact ⟨p, _, hp, hh⟩
  | dead => simp [AObj.live] at hl

/-- Only the blocks' contents count, and how many there are. -/
theorem Sim.congr {G : Nat} {ρ : Map} {H H' : Heap} {w w' : World} (hs : Sim G ρ H w) (hg : ∀ b, H'.get b = H.get b) (hw : w'.heap = w.heap) : Sim G ρ H' w' where
  obj := by
    intro b o h
    rw [hg] at h
    exact (hs.obj b o h).grow (Ext.refl ρ) (by intro B o h; rw [hw]; exact h)
  apart := by
    intro b b' o o' p p' h h'
    rw [hg] at h h'
    exact hs.apart b b' o o' p p' h h'
  glob := hs.glob

theorem OwnsBlk.congr {ρ : Map} {H H2 : Heap} {B : Nat} (hg : ∀ b, H2.get b = H.get b) (h : OwnsBlk ρ H2 B) : OwnsBlk ρ H B := by
  obtain ⟨b, o, p, hb, r⟩ := h
  exact ⟨b, o, p, by rw [← hg]; exact hb, r⟩

theorem Keeps.congr {ρ ρ' : Map} {H H' H2 : Heap} {w w' : World} (hk : Keeps ρ H w ρ' H' w') (hg : ∀ b, H2.get b = H'.get b) : Keeps ρ H w ρ' H2 w' where
  size := hk.size
  kept := hk.kept
  owns := fun B h => hk.owns B (h.congr hg)
  tape := hk.tape
  os := hk.os
  output := hk.output

theorem Good.congr {G : Nat} {ρ ρ' : Map} {H H' H2 : Heap} {w w' : World} (h : Good G ρ H w ρ' H' w') (hg : ∀ b, H2.get b = H'.get b) (hn : H2.next = H'.next) : Good G ρ H w ρ' H2 w' where
  sim := h.sim.congr hg rfl
  ext := h.ext
  out := by intro b hb; rw [hn] at hb; exact h.out b hb
  next := by rw [hn]; exact h.next
  dom := by intro b hb ho; rw [hn] at ho; rw [hg]; exact h.dom b hb ho
  ro := by intro b o ho; rw [hg] at ho; exact h.ro b o ho
  keeps := h.keeps.congr hg

/-- The same, at the beginning. -/
theorem Good.congr_left {G : Nat} {ρ ρ' : Map} {H H0 H' : Heap} {w w' : World} (h : Good G ρ H w ρ' H' w') (hg : ∀ b, H0.get b = H.get b) (hn : H0.next = H.next) : Good G ρ H0 w ρ' H' w' where
  sim := h.sim
  ext := h.ext
  out := by intro b hb; rw [hn] at hb; exact h.out b hb
  next := by rw [hn]; exact h.next
  dom := by intro b hb ho; rw [hg] at hb; rw [hn] at ho; exact h.dom b hb ho
  ro := by intro b o ho hl hw; rw [hg]; exact h.ro b o ho hl hw
  keeps := {
    size := h.keeps.size
    kept := by
      intro B o hB ho
      refine h.keeps.kept B o hB ?_
      rintro ⟨b, o, p, hb, r⟩; exact ho ⟨b, o, p, by rw [hg]; exact hb, r⟩
    owns := by
      intro B hx
      rcases h.keeps.owns B hx with x | ⟨b, o, p, hb, r⟩
      · exact .inl x
      · exact .inr ⟨b, o, p, by rw [hg]; exact hb, r⟩
    tape := h.keeps.tape
    os := h.keeps.os
    output := h.keeps.output }

/-- A world with the same memory. -/
theorem Good.same {G : Nat} {ρ : Map} {H : Heap} {w w' : World} (hs : Sim G ρ H w) (hw : w'.heap = w.heap) (ht : w'.tape = w.tape) (ho : w'.os = w.os) (hp : w'.output = w.output) : Good G ρ H w ρ H w' where
  sim := hs.congr (fun _ => rfl) hw
  ext := Ext.refl ρ
  out := fun _ _ => rfl
  next := Nat.le_refl _
  dom := fun _ h _ => h
  ro := fun _ _ h _ _ => h
  keeps := {
    size := by rw [hw]; exact Nat.le_refl _
    kept := fun B o h _ => by rw [hw]; exact h
    owns := fun B h => .inr h
    tape := ht
    os := ho
    output := hp }

/-! ## one block changed in place -/
/-- The world's block B turned; all others as they were. -/
structure Turned (w w' : World) (B : Nat) (O : Obj) : Prop where
  at_ : w'.heap[B]? = some O
  rest : ∀ x, x ≠ B → w'.heap[x]? = w.heap[x]?
  size : w'.heap.size = w.heap.size
  tape : w'.tape = w.tape
  os : w'.os = w.os
  output : w'.output = w.output

theorem turned_setCell {w : World} {B j : Nat} {C : Array Value} {e : TypeId} {fr : Nat × Nat} (h : w.heap[B]? = some (.cells C e fr)) (v : Value) :
    Turned w (w.setCell ⟨B, j, none⟩ v) B (.cells (C.setIfInBounds j v) e fr) where
  at_ := by simp [World.setCell, Array.getElem?_modify, h]
  rest := by intro x hx; simp only [World.setCell, Array.getElem?_modify]; rw [if_neg (by exact fun e => hx e.symm)]
  size := by simp [World.setCell]
  tape := rfl
  os := rfl
  output := rfl

/-- A change of one abstract block and of the block of the world where it lies. -/
theorem Good.turned {G : Nat} {ρ : Map} {H : Heap} {w w' : World} {b : Nat} {o o' : AObj} {p : Place} {O : Obj}
    (hs : Sim G ρ H w) (hg : H.get b = some o) (hown : o.own = true) (hlive : o.live = true) (hp : ρ b = some p) (ht : Turned w w' p.blk O)
    (hown' : o'.own = true) (ho' : ORel ρ w' b o') : Good G ρ H w ρ (H.set b o') w' := by
  have hset : ∀ x y, (H.set b o').get x = some y → ∃ y0, H.get x = some y0 ∧ (y.live = true → y0.live = true) ∧ (y.own = true → y0.own = true) := by
    intro x y h
    rw [Heap.get_set] at h
    split at h
    · rename_i e; subst e; exact ⟨_, hg, fun _ => hlive, fun _ => hown⟩
    · exact ⟨y, h, id, id⟩
  have hsim : Sim G ρ (H.set b o') w' := by
    refine ⟨?_, ?_, hs.glob⟩
    · intro x y h
      rw [Heap.get_set] at h
      split at h
      · rename_i e; subst e; injection h with h; subst h; exact ho'
      · rename_i hne
        have hx := hs.obj x y h
        cases y with
        | dead => trivial
        | map es =>
          obtain ⟨q, ms, k, hq, h0, h1, hh', hk⟩ := hx
          exact ⟨q, ms, k, hq, h0, h1, by rw [ht.rest _ (hs.apart x b _ _ q p h hg hne rfl hown hq hp)]; exact hh', hk⟩
        | cells d ed own md =>
          obtain ⟨q, D, ed', fd, hq, hh', r⟩ := hx
          exact ⟨q, D, ed', fd, hq, by rw [ht.rest _ (hs.apart x b _ _ q p h hg hne rfl hown hq hp)]; exact hh', r⟩
    · intro x x' y y' q q' h h' hne hl ho hq hq'
      obtain ⟨y1, g1, l1, _⟩ := hset x y h
      obtain ⟨y2, g2, _, w2⟩ := hset x' y' h'
      exact hs.apart x x' y1 y2 q q' g1 g2 hne (l1 hl) (w2 ho) hq hq'
  refine ⟨hsim, Ext.refl ρ, fun _ _ => rfl, Nat.le_refl _, ?_, ?_, ?_⟩
  · intro x hx _
    rw [Heap.get_set]
    split
    · rename_i e; subst e; rw [hg] at hx; exact absurd hx (by simp)
    · exact hx
  · intro x y h hl hw
    rw [Heap.get_set] at h
    split at h
    · injection h with h; subst h; rw [hown'] at hw; cases hw
    · exact h
  · refine ⟨by rw [ht.size]; exact Nat.le_refl _, ?_, ?_, ht.tape, ht.os, ht.output⟩
    · intro B y hB ho
      rw [ht.rest B ?_]; exact hB
      rintro rfl
      exact ho ⟨b, o, p, hg, hown, hp, rfl⟩
    · rintro B ⟨x, y, q, hx, hy, hq, rfl⟩
      obtain ⟨y1, g1, _, w1⟩ := hset x y hx
      exact .inr ⟨x, y1, q, g1, w1 hy, hq, rfl⟩

/-- A cell of an own block written. -/
theorem Good.write1 {G : Nat} {ρ : Map} {H : Heap} {w : World} {b o : Nat} {c : List AV} {e : TypeId} {m : Bool} {p : Place} {a : AV} {v : Value}
    (hs : Sim G ρ H w) (hg : H.get b = some (.cells c e true m)) (ho : o < c.length) (hp : ρ b = some p) (hv : VRel ρ a v) :
    Good G ρ H w ρ (H.set b (.cells (c.set o a) e true m)) (w.setCell ⟨p.blk, p.off + o, none⟩ v) ∧
    (∃ u, w.cell? ⟨p.blk, p.off + o, none⟩ = some u) ∧ w.frozen? ⟨p.blk, p.off + o, none⟩ = false := by
  obtain ⟨p1, C, el, fr, hp1, hh, hc, hl1, hl2, hown⟩ := hs.obj b _ hg
  rw [hp] at hp1; injection hp1 with hp1; subst hp1
  obtain ⟨hfit, hfr⟩ := hown rfl
  refine ⟨Good.turned hs hg rfl rfl hp (turned_setCell hh v) rfl ?_, ?_, ?_⟩
  · refine ⟨p, C.setIfInBounds (p.off + o) v, el, fr, hp, (turned_setCell hh v).at_, ?_, by simpa using hl1, by simpa using hl2, fun _ => ⟨by simpa using hfit, by simpa using hfr⟩⟩
    intro i x hx
    by_cases e' : i = o
    · subst e'
      rw [List.getElem?_set_self (by omega)] at hx
      injection hx with hx; subst hx
      exact ⟨v, by rw [Array.getElem?_setIfInBounds]; simp; omega, hv⟩
    · rw [List.getElem?_set_ne (fun h => e' h.symm)] at hx
      obtain ⟨u, hu, r⟩ := hc i x hx
      exact ⟨u, by rw [Array.getElem?_setIfInBounds]; rw [if_neg (by omega)]; exact hu, r⟩
  · obtain ⟨u, hu, _⟩ := hc o c[o] (by simp [ho])
    exact ⟨u, by simp [World.cell?, hh, hu]⟩
  · simp only [World.frozen?, hh]
    rcases hfr with rfl | ⟨_, rfl⟩
    · simp
    · simp; omega

/-- A map changed. -/
theorem Good.mapped {G : Nat} {ρ : Map} {H : Heap} {w : World} {r : Nat} {es es' : List (AV × AV)} {p : Place} {ms ms' : Array MapEntry} {k k' : Nat}
    (hs : Sim G ρ H w) (hg : H.get r = some (.map es)) (hp : ρ r = some p) (hh : w.heap[p.blk]? = some (.map ms k)) (hk : KRels ρ es' ms'.toList) :
    Good G ρ H w ρ (H.set r (.map es')) { w with heap := w.heap.setIfInBounds p.blk (.map ms' k') } := by
  obtain ⟨p1, m1, k1, hp1, h0, h1, hh1, _⟩ := hs.obj r _ hg
  rw [hp] at hp1; injection hp1 with hp1; subst hp1
  have hlt := heap_lt hh
  have ht : Turned w { w with heap := w.heap.setIfInBounds p.blk (.map ms' k') } p.blk (.map ms' k') :=
    ⟨by simp [hlt], fun x hx => by simp only [Array.getElem?_setIfInBounds]; rw [if_neg (fun e => hx e.symm)], by simp, rfl, rfl, rfl⟩
  exact Good.turned hs hg rfl rfl hp ht rfl ⟨p, ms', k', hp, h0, h1, ht.at_, hk⟩

/-- A block's bytes marked as a string's. -/
theorem Good.marked {G : Nat} {ρ : Map} {H : Heap} {w : World} {b : Nat} {c : List AV} {e : TypeId} {m : Bool} {p : Place} {C : Array Value} {el : TypeId} {fr : Nat × Nat}
    (hs : Sim G ρ H w) (hg : H.get b = some (.cells c e true m)) (hp : ρ b = some p) (hh : w.heap[p.blk]? = some (.cells C el fr)) :
    Good G ρ H w ρ (H.set b (.cells c e true true)) (w.freeze { block := p.blk, off := C.size } 1) := by
  obtain ⟨p1, C1, e1, fr1, hp1, hh1, hc1, hl1, hl2, hown⟩ := hs.obj b _ hg
  rw [hp] at hp1; injection hp1 with hp1; subst hp1
  rw [hh] at hh1; injection hh1 with hh1; injection hh1 with e1 e2 e3; subst e1; subst e2; subst e3
  obtain ⟨hfit, hfr⟩ := hown rfl
  have hfr' : (match fr with | (lo, hi) => (if lo == hi then (C.size, C.size + 1) else (min lo C.size, max hi (C.size + 1)))) = (C.size, C.size + 1) := by
    rcases hfr with rfl | ⟨_, rfl⟩
    · simp
    · simp
  have ht : Turned w (w.freeze { block := p.blk, off := C.size } 1) p.blk (.cells C el (C.size, C.size + 1)) := by
    refine ⟨?_, ?_, by simp [World.freeze], rfl, rfl, rfl⟩
    · simp only [World.freeze]
      rw [if_neg (by decide)]
      simp only [Array.getElem?_modify, hh, if_true, Option.map_some]
      exact congrArg (fun f => some (Obj.cells C el f)) hfr'
    · intro x hx
      simp only [World.freeze]
      rw [if_neg (by decide)]
      simp only [Array.getElem?_modify]
      rw [if_neg (fun e => hx e.symm)]
  exact Good.turned hs hg rfl rfl hp ht rfl ⟨p, C, el, _, hp, ht.at_, hc1, hl1, hl2, fun _ => ⟨hfit, .inr ⟨rfl, rfl⟩⟩⟩

/-! ## a new block -/
theorem push_get {w : World} (o : Obj) {B : Nat} {x : Obj} (h : w.heap[B]? = some x) : (World.alloc w o).heap[B]? = some x := by
  have hlt := heap_lt h
  show (w.heap.push o)[B]? = _
  rw [Array.getElem?_push, if_neg (by omega)]
  exact h

theorem push_at {w : World} (o : Obj) : (World.alloc w o).heap[w.heap.size]? = some o := by
  show (w.heap.push o)[w.heap.size]? = _
  simp

theorem Good.push {G : Nat} {ρ : Map} {H : Heap} {w : World} {o : AObj} {O : Obj} {tot : Nat} (hs : Sim G ρ H w) (hn : ρ H.next = none)
    (ho : ORel (upd ρ H.next ⟨w.heap.size, 0, tot⟩) (World.alloc w O) H.next o) (hown : o.own = true) :
    Good G ρ H w (upd ρ H.next ⟨w.heap.size, 0, tot⟩) (H.push o) (World.alloc w O) := by
  have hext : Ext ρ (upd ρ H.next ⟨w.heap.size, 0, tot⟩) := Ext.upd _ hn
  have hold : ∀ b x p, H.get b = some x → x.live = true → b ≠ H.next → upd ρ H.next ⟨w.heap.size, 0, tot⟩ b = some p → p.blk < w.heap.size := by
    intro b x p hb hl hne hp
    rw [upd_ne _ _ hne] at hp
    obtain ⟨q, Q, hq, hh⟩ := hs.place hb hl
    rw [hq] at hp; injection hp with hp; subst hp
    exact heap_lt hh
  have hol : ∀ x : AObj, x.own = true → x.live = true := by intro x h; cases x <;> simp_all [AObj.own, AObj.live]
  refine ⟨⟨?_, ?_, ?_⟩, hext, ?_, by simp, ?_, ?_, ?_⟩
  · intro b x h
    rw [Heap.get_push] at h
    split at h
    · rename_i e; subst e; injection h with h; subst h; exact ho
    · exact (hs.obj b x h).grow hext fun B y hy => push_get O hy
  · intro b b' x x' p p' h h' hne hl hw hp hp'
    rw [Heap.get_push] at h h'
    by_cases e : b = H.next
    · have e' : b' ≠ H.next := fun h => hne (e.trans h.symm)
      rw [if_neg e'] at h'
      have := hold b' x' p' h' (hol _ hw) e' hp'
      rw [e, upd_same] at hp; injection hp with hp; subst hp
      simp; omega
    · rw [if_neg e] at h
      by_cases e' : b' = H.next
      · have := hold b x p h hl e hp
        rw [e', upd_same] at hp'; injection hp' with hp'; subst hp'
        simp; omega
      · rw [if_neg e'] at h'
        rw [upd_ne _ _ e] at hp
        rw [upd_ne _ _ e'] at hp'
        exact hs.apart b b' x x' p p' h h' hne hl hw hp hp'
  · intro g hg
    obtain ⟨p, hp, r⟩ := hs.glob g hg
    exact ⟨p, hext _ _ hp, r⟩
  · intro b hb
    exact upd_ne _ _ (by simp at hb; omega)
  · intro b hb hr
    rw [Heap.get_push, if_neg (by simp at hr; omega)]
    exact hb
  · intro x y h hl hw
    rw [Heap.get_push] at h
    split at h
    · injection h with h; subst h; rw [hown] at hw; cases hw
    · exact h
  · refine ⟨by show w.heap.size ≤ (w.heap.push O).size; simp, fun B x h _ => push_get O h, ?_, rfl, rfl, rfl⟩
    rintro B ⟨b, x, p, hb, hx, hp, rfl⟩
    rw [Heap.get_push] at hb
    by_cases e : b = H.next
    · rw [e, upd_same] at hp; injection hp with hp; subst hp
      exact .inl (Nat.le_refl _)
    · rw [if_neg e] at hb
      rw [upd_ne _ _ e] at hp
      exact .inr ⟨b, x, p, hb, hx, hp, rfl⟩

/-! ## the block that grew where it lay: its content is told under a new number -/
theorem Good.retarget {G : Nat} {ρ : Map} {H : Heap} {w : World} {b o n : Nat} {c : List AV} {e e2 : TypeId} {p : Place}
    (hs : Sim G ρ H w) (hn : ρ H.next = none) (hg : H.get b = some (.cells c e true false)) (hp : ρ b = some p) (hfit : o + n ≤ c.length) :
    Good G ρ H w (upd ρ H.next ⟨p.blk, p.off + o, p.tot - o⟩) ((H.set b .dead).push (.cells ((c.drop o).take n) e2 true false)) w := by
  have hext : Ext ρ (upd ρ H.next ⟨p.blk, p.off + o, p.tot - o⟩) := Ext.upd _ hn
  obtain ⟨p1, C, el, fr, hp1, hh, hc, hl1, hl2, hown⟩ := hs.obj b _ hg
  rw [hp] at hp1; injection hp1 with hp1; subst hp1
  obtain ⟨hf, hfr⟩ := hown rfl
  have hbn : b ≠ H.next := by rintro rfl; rw [hn] at hp; exact absurd hp (by simp)
  have hget : ∀ x y, ((H.set b .dead).push (.cells ((c.drop o).take n) e2 true false)).get x = some y → (x = H.next ∧ y = .cells ((c.drop o).take n) e2 true false) ∨ (x ≠ H.next ∧ x = b ∧ y = .dead) ∨ (x ≠ H.next ∧ x ≠ b ∧ H.get x = some y) := by
    intro x y h
    rw [Heap.get_push, Heap.next_set, Heap.get_set] at h
    split at h
    · rename_i e; injection h with h; exact .inl ⟨e, h.symm⟩
    · rename_i e
      split at h
      · rename_i e'; injection h with h; exact .inr (.inl ⟨e, e', h.symm⟩)
      · rename_i e'; exact .inr (.inr ⟨e, e', h⟩)
  refine ⟨⟨?_, ?_, ?_⟩, hext, ?_, by simp, ?_, ?_, ?_⟩
  · intro x y h
    rcases hget x y h with ⟨rfl, rfl⟩ | ⟨_, _, rfl⟩ | ⟨h1, h2, h3⟩
    · refine ⟨_, C, el, fr, upd_same _ _ _, hh, ?_, ?_, ?_, fun _ => ⟨?_, ?_⟩⟩
      · intro i a ha
        rw [List.getElem?_take] at ha
        split at ha
        · rw [List.getElem?_drop] at ha
          obtain ⟨v, hv, r⟩ := hc _ a ha
          exact ⟨v, by simpa [Nat.add_assoc] using hv, VRel.mono hext _ _ r⟩
        · exact absurd ha (by simp)
      · simp only [List.length_take, List.length_drop]; omega
      · simp only [List.length_take, List.length_drop]; omega
      · simp only []; omega
      · rcases hfr with f | ⟨f, _⟩
        · exact .inl f
        · exact absurd f (by simp)
    · trivial
    · exact (hs.obj x y h3).grow hext fun B z hz => hz
  · intro x x' y y' q q' h h' hne hl hw hq hq'
    rcases hget x y h with ⟨rfl, rfl⟩ | ⟨_, _, rfl⟩ | ⟨h1, h2, h3⟩
    · rcases hget x' y' h' with ⟨rfl, rfl⟩ | ⟨_, _, rfl⟩ | ⟨g1, g2, g3⟩
      · exact absurd rfl hne
      · simp [AObj.own] at hw
      · rw [upd_same] at hq; injection hq with hq; subst hq
        rw [upd_ne _ _ g1] at hq'
        exact hs.apart b x' _ _ p q' hg g3 (fun e => g2 e.symm) rfl hw hp hq'
    · simp [AObj.live] at hl
    · rw [upd_ne _ _ h1] at hq
      rcases hget x' y' h' with ⟨rfl, rfl⟩ | ⟨_, _, rfl⟩ | ⟨g1, g2, g3⟩
      · rw [upd_same] at hq'; injection hq' with hq'; subst hq'
        exact hs.apart x b _ _ q p h3 hg h2 hl rfl hq hp
      · simp [AObj.own] at hw
      · rw [upd_ne _ _ g1] at hq'
        exact hs.apart x x' y y' q q' h3 g3 hne hl hw hq hq'
  · intro g hg
    obtain ⟨q, hq, r⟩ := hs.glob g hg
    exact ⟨q, hext _ _ hq, r⟩
  · intro x hx
    exact upd_ne _ _ (by simp at hx; omega)
  · intro x hx hr
    rw [Heap.get_push, Heap.next_set, if_neg (by simp at hr; omega), Heap.get_set]
    split
    · rename_i e'; subst e'; rw [hg] at hx; exact absurd hx (by simp)
    · exact hx
  · intro x y h hl hw
    rcases hget x y h with ⟨rfl, rfl⟩ | ⟨_, _, rfl⟩ | ⟨h1, h2, h3⟩
    · cases hw
    · cases hl
    · exact h3
  · refine ⟨Nat.le_refl _, fun B x h _ => h, ?_, rfl, rfl, rfl⟩
    rintro B ⟨x, y, q, hx, hy, hq, rfl⟩
    right
    rcases hget x y hx with ⟨rfl, rfl⟩ | ⟨_, _, rfl⟩ | ⟨h1, h2, h3⟩
    · rw [upd_same] at hq; injection hq with hq; subst hq
      exact ⟨b, _, p, hg, rfl, hp, rfl⟩
    · simp [AObj.own] at hy
    · rw [upd_ne _ _ h1] at hq
      exact ⟨x, y, q, h3, hy, hq, rfl⟩

/-- One cell more, out of the slack. -/
theorem Good.extend1 {G : Nat} {ρ : Map} {H : Heap} {w : World} {b : Nat} {c : List AV} {e : TypeId} {m : Bool} {p : Place} {a : AV} {v : Value}
    (hs : Sim G ρ H w) (hg : H.get b = some (.cells c e true m)) (ho : c.length < p.tot) (hp : ρ b = some p) (hv : VRel ρ a v) :
    Good G ρ H w ρ (H.set b (.cells (c ++ [a]) e true m)) (w.setCell ⟨p.blk, p.off + c.length, none⟩ v) ∧
    (∃ u, w.cell? ⟨p.blk, p.off + c.length, none⟩ = some u) ∧ w.frozen? ⟨p.blk, p.off + c.length, none⟩ = false := by
  obtain ⟨p1, C, el, fr, hp1, hh, hc, hl1, hl2, hown⟩ := hs.obj b _ hg
  rw [hp] at hp1; injection hp1 with hp1; subst hp1
  obtain ⟨hfit, hfr⟩ := hown rfl
  refine ⟨Good.turned hs hg rfl rfl hp (turned_setCell hh v) rfl ?_, ?_, ?_⟩
  · refine ⟨p, C.setIfInBounds (p.off + c.length) v, el, fr, hp, (turned_setCell hh v).at_, ?_, by simp; omega, by simp; omega, fun _ => ⟨by simpa using hfit, by simpa using hfr⟩⟩
    intro i x hx
    by_cases e' : i = c.length
    · subst e'
      simp at hx; subst hx
      exact ⟨v, by rw [Array.getElem?_setIfInBounds]; simp; omega, hv⟩
    · have hi : i < c.length := by
        rcases Nat.lt_or_ge i (c ++ [a]).length with h | h
        · simp at h; omega
        · rw [List.getElem?_eq_none h] at hx; exact absurd hx (by simp)
      rw [List.getElem?_append_left hi] at hx
      obtain ⟨u, hu, r⟩ := hc i x hx
      exact ⟨u, by rw [Array.getElem?_setIfInBounds]; rw [if_neg (by omega)]; exact hu, r⟩
  · have hlt : p.off + c.length < C.size := by omega
    exact ⟨C[p.off + c.length], by simp [World.cell?, hh, hlt]⟩
  · simp only [World.frozen?, hh]
    rcases hfr with rfl | ⟨_, rfl⟩
    · simp
    · simp; omega

end Go.Abs

/- The abstract machine's run of a region that draws its order, of a body, of a call. -/
namespace Go.Abs

/-! ## a region that draws its order: run in one order, with a look whether another one could tell -/
def isHeavy (P : Program) : Op → Bool
  | .store _ _ _ | .mapUpdate _ _ _ _ | .insert _ _ _ _ => true
  | .call c => match c.callee with
    | .builtin b => match b with
      | .append | .copy | .clear | .delete => true
      | _ => false
    | _ => true
  | .convert src dst _ => match P.underlying src, P.underlying dst with
    | some (.slice _), some (.slice _) => true
    | _, _ => false
  | _ => false

def bitsOf (l : List Nat) : Nat := l.foldl (fun s i => s ||| 2 ^ i) 0

/-- What must be done ahead of each operation, as bits. -/
def befores (ops : Array Oper) : Array Nat := Region.before ops

def heavies (P : Program) : List Oper → Nat → List Nat
  | [], _ => []
  | o :: os, i => if isHeavy P o.op then i :: heavies P os (i + 1) else heavies P os (i + 1)

/-- The order in which it is run: each heavy operation as soon as it can, the others as late as they can. -/
def canonGo (b : Array Nat) (n : Nat) : List Nat → Nat → List Nat
  | [], done => (List.range n).filter fun i => !done.testBit i
  | h :: hs, done =>
    let ls := (List.range n).filter fun i => (b.getD h 0).testBit i && !done.testBit i
    ls ++ h :: canonGo b n hs ((done ||| bitsOf ls) ||| 2 ^ h)

def preds (o : Oper) : List Nat := (o.after.toList.filter fun e => Region.binds .any e).map (·.on)

/-- The bits are those of the edges, and of what they lead to. -/
def closedOk (ops : Array Oper) (b : Array Nat) : Bool :=
  ops.toList.zipIdx.all fun (o, i) => b.getD i 0 == (preds o).foldl (fun s k => s ||| 2 ^ k ||| b.getD k 0) 0

def edgesOk (ops : Array Oper) : Bool :=
  ops.toList.zipIdx.all fun (o, i) => (preds o).all fun k => k < i

def dstsOf (ops : List Oper) : List Tmp := ops.filterMap (·.dst)

def nodupB : List Nat → Bool
  | [] => true
  | x :: xs => !xs.contains x && nodupB xs

/-- Whoever looks at what an operation of the region writes comes behind it, or ahead of it, in every order. -/
def looksOk (ops : Array Oper) (b : Array Nat) : Bool :=
  ops.toList.zipIdx.all fun (o, i) => ops.toList.zipIdx.all fun (p, j) =>
    i == j || (match p.dst with
      | none => true
      | some d => !(o.looksAt ops).contains d || (b.getD i 0).testBit j || (b.getD j 0).testBit i)

/-- The order keeps the edges; ahead of a heavy operation stands only what must. -/
def canonOk (P : Program) (ops : Array Oper) (b : Array Nat) : List Nat → Nat → Bool
  | [], _ => true
  | i :: is, done =>
    (b.getD i 0 ||| done) == done && (match ops[i]? with
      | some o => !isHeavy P o.op || (done ||| b.getD i 0) == b.getD i 0
      | none => false) && canonOk P ops b is (done ||| 2 ^ i)

def drawOk (P : Program) (ops : Array Oper) (b : Array Nat) (c : List Nat) : Bool :=
  edgesOk ops && closedOk ops b && nodupB (dstsOf ops.toList) && looksOk ops b && nodupB c && c.length == ops.size && canonOk P ops b c 0

def sameIn (H : Heap) (n0 : Nat) (snaps : List Heap) (b : Nat) : Bool :=
  match H.get b with
    | some o => snaps.all fun S => match S.get b with
      | some o' => AObj.beq o' o
      | none => false
    | none => false

structure St where
  T : List AV
  H : Heap
  snaps : List Heap

/-- What an operation that is not heavy comes to: its value, and the block that it makes. -/
def lightRes (P : Program) (call : CallFn) (ops : Array Oper) (b : Array Nat) (hv : List Nat) (n0 : Nat) (i : Nat) (o : Oper) (s : St) : Option (AV × Option AObj) :=
  if wantedA ops s.T o then
    match sem P call s.T o.op with
    | none => none
    | some (.heavy _) => none
    | some (.pure v) => some (v, none)
    | some (.alloc x mk) => some (mk s.H.next, some x)
    | some (.read bs k) =>
      let lo := (hv.filter fun h => (b.getD i 0).testBit h).length
      let m := s.snaps.length - lo
      if bs.all (fun x => decide (x < s.H.next)) && (m ≤ 1 || bs.all (sameIn s.H n0 (s.snaps.take m))) then
        match mapOpt s.H.get bs with
        | some os => match k os with
          | some v => some (v, none)
          | none => none
        | none => none
      else none
  else some (.undef, none)

def pushO (H : Heap) : Option AObj → Heap
  | none => H
  | some o => H.push o

def dstep (P : Program) (call : CallFn) (ops : Array Oper) (b : Array Nat) (hv : List Nat) (n0 : Nat) (i : Nat) (s : St) : Option St :=
  match ops[i]? with
  | none => none
  | some o =>
    if isHeavy P o.op then
      if wantedA ops s.T o then
        match runOp P call s.T o s.H with
        | some (v, H') => some { T := put s.T o.dst v, H := H', snaps := H' :: s.snaps }
        | none => none
      else some { T := put s.T o.dst .undef, H := s.H, snaps := s.H :: s.snaps }
    else
      match lightRes P call ops b hv n0 i o s with
      | some (v, x) => some { T := put s.T o.dst v, H := pushO s.H x, snaps := s.snaps }
      | none => none

def drun (P : Program) (call : CallFn) (ops : Array Oper) (b : Array Nat) (hv : List Nat) (n0 : Nat) : List Nat → St → Option St
  | [], s => some s
  | i :: is, s => match dstep P call ops b hv n0 i s with
    | some s' => drun P call ops b hv n0 is s'
    | none => none

def drawRun (P : Program) (call : CallFn) (ops : Array Oper) (b : Array Nat) (hv c : List Nat) (T : List AV) (H : Heap) : Option (List AV × Heap) :=
  if drawOk P ops b c then
    match drun P call ops b hv H.next c { T := T, H := H, snaps := [H] } with
    | some s => some (s.T, s.H)
    | none => none
  else none

def runRegion (P : Program) (call : CallFn) (ops : Array Oper) (draw : Bool) (T : List AV) (H : Heap) : Option (List AV × Heap) :=
  if draw then drawRun P call ops (befores ops) (heavies P ops.toList 0) (canonGo (befores ops) ops.size (heavies P ops.toList 0) 0) T H
  else runOps P call ops ops.toList T H

/-! ## bodies -/
inductive AX where
  | normal
  | exit (id : Nat)
  | ret

abbrev Out := Option (AX × List AV × Heap)

def runLoop (f : List AV → Heap → Out) : Nat → List AV → Heap → Out
  | 0, _, _ => none
  | n + 1, T, H => match f T H with
    | some (.normal, T', H') => runLoop f n T' H'
    | r => r

def runCode (P : Program) (call : CallFn) (n : Nat) : Code → List AV → Heap → Out
  | .skip, T, H => some (.normal, T, H)
  | .label _, T, H => some (.normal, T, H)
  | .region _ ops draw, T, H => match runRegion P call ops draw T H with
    | some (T', H') => some (.normal, T', H')
    | none => none
  | .seq a b, T, H => match runCode P call n a T H with
    | some (.normal, T', H') => runCode P call n b T' H'
    | r => r
  | .cond c x y, T, H => match ev P T c with
    | some (.bool true) => runCode P call n x T H
    | some (.bool false) => runCode P call n y T H
    | _ => none
  | .block id body, T, H => match runCode P call n body T H with
    | some (.exit id', T', H') => if id' = id then some (.normal, T', H') else some (.exit id', T', H')
    | r => r
  | .loop body, T, H => runLoop (runCode P call n body) n T H
  | .exit id, T, H => some (.exit id, T, H)
  | .scope body, T, H => runCode P call n body T H
  | .ret, T, H => some (.ret, T, H)
  | _, _, _ => none

def resultsA (P : Program) (T : List AV) (H : Heap) : List ResultVar → Option (List AV)
  | [] => some []
  | .tmp t :: rs => match resultsA P T H rs with
    | some vs => some (T.getD t .undef :: vs)
    | none => none
  | .cell a t :: rs => match T.getD a .undef, tagg P t, tsz P t with
    | .ptr (some (b, o)), some g, some n => match H.get b with
      | some x => match readVar g n o x, resultsA P T H rs with
        | some v, some vs => some (v :: vs)
        | _, _ => none
      | none => none
    | _, _, _ => none

def tupled : List AV → AV
  | [v] => v
  | vs => .tuple vs

abbrev Prims := FuncId → Option (List AV → Heap → Option (AV × Heap))

def runBody (P : Program) (call : CallFn) (n : Nat) (fn : Func) (args : List AV) (H : Heap) : Option (AV × Heap) :=
  match fn.body with
  | none => none
  | some c => match runCode P call n c (args ++ List.replicate (fn.ntmps - args.length) .undef) H with
    | some (.normal, T, H') | some (.ret, T, H') => match resultsA P T H' fn.results.toList with
      | some vs => some (tupled vs, H')
      | none => none
    | _ => none

def acall (P : Program) (prims : Prims) : Nat → CallFn
  | 0, _, _, _ => none
  | n + 1, f, args, H => match prims f with
    | some g => g args H
    | none => match P.funcs[f]? with
      | some fn => runBody P (acall P prims n) n fn args H
      | none => none

def noPrims : Prims := fun _ => none

/-- Memory without a block of the run's own: numbers below G are the package-level variables'. -/
def Heap.start (G : Nat) : Heap := { next := G, tree := .leaf }

end Go.Abs
