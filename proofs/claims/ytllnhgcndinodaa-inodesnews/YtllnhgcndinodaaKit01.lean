/- Texts on the abstract machine, joined. -/
import Derived.Calls
import Derived.Orders
import Derived.Laws.Cells
import Derived.Laws.Sem
import Derived.OrdersIn
import Derived.LoopNIn
import Derived.ChangeOld
import Derived.Laws.StructEq
import Derived.ChangeKeysEq
import Derived.Laws.BytesString

/- The abstract machine's values and memory: a deterministic picture of the model's memory, with no tape, no capacities and no block numbers of the world's. -/
namespace Go.Abs
set_option linter.unusedVariables false

/-- A value: addresses are (block, offset) in the abstract memory; a slice's capacity is exact (slack: none), or a lower bound (slack: the cells of an element). -/
inductive AV where
  | bool (b : Bool)
  | int (k : IntKind) (n : Int)
  | str (s : List UInt8)
  | ptr (a : Option (Nat × Nat))
  | slice (a : Option (Nat × Nat)) (len cap : Nat) (slack : Option Nat)
  | map (r : Option Nat)
  | func (fn : Fn) (first captured : List AV)
  | nilFunc
  | iface (t : TypeId) (v : AV)
  | nilIface
  | agg (cs : List AV)
  | tuple (vs : List AV)

instance : Inhabited AV := ⟨.nilFunc⟩

def AV.undef : AV := .tuple []

def AV.cells : AV → List AV
  | .agg cs => cs
  | v => [v]

/-- A value of one cell. -/
def AV.one : AV → Bool
  | .agg _ => false
  | .tuple _ => false
  | _ => true

mutual
def AV.beq : AV → AV → Bool
  | .bool a, .bool b => a == b
  | .int j a, .int k b => j == k && a == b
  | .str a, .str b => a == b
  | .ptr a, .ptr b => a == b
  | .slice a n c e, .slice b m d f => a == b && n == m && c == d && e == f
  | .map a, .map b => a == b
  | .func f xs ys, .func g us vs => f == g && AV.beqs xs us && AV.beqs ys vs
  | .nilFunc, .nilFunc => true
  | .iface t v, .iface u x => t == u && AV.beq v x
  | .nilIface, .nilIface => true
  | .agg xs, .agg ys => AV.beqs xs ys
  | .tuple xs, .tuple ys => AV.beqs xs ys
  | _, _ => false
def AV.beqs : List AV → List AV → Bool
  | [], [] => true
  | x :: xs, y :: ys => AV.beq x y && AV.beqs xs ys
  | _, _ => false
end

mutual
theorem AV.beq_refl : ∀ a : AV, AV.beq a a = true
  | .bool _ => by simp [AV.beq]
  | .int _ _ => by simp [AV.beq]
  | .str _ => by simp [AV.beq]
  | .ptr _ => by simp [AV.beq]
  | .slice _ _ _ _ => by simp [AV.beq]
  | .map _ => by simp [AV.beq]
  | .func _ xs ys => by simp [AV.beq, AV.beqs_refl xs, AV.beqs_refl ys]
  | .nilFunc => by simp [AV.beq]
  | .iface _ v => by simp [AV.beq, AV.beq_refl v]
  | .nilIface => by simp [AV.beq]
  | .agg xs => by simp [AV.beq, AV.beqs_refl xs]
  | .tuple xs => by simp [AV.beq, AV.beqs_refl xs]
theorem AV.beqs_refl : ∀ l : List AV, AV.beqs l l = true
  | [] => by simp [AV.beqs]
  | x :: xs => by simp [AV.beqs, AV.beq_refl x, AV.beqs_refl xs]
end

mutual
theorem AV.eq_of_beq : ∀ a b : AV, AV.beq a b = true → a = b
  | .bool a, b, h => by cases b <;> simp_all [AV.beq]
  | .int _ _, b, h => by cases b <;> simp_all [AV.beq]
  | .str _, b, h => by cases b <;> simp_all [AV.beq]
  | .ptr _, b, h => by cases b <;> simp_all [AV.beq]
  | .slice _ _ _ _, b, h => by cases b <;> simp_all [AV.beq]
  | .map _, b, h => by cases b <;> simp_all [AV.beq]
  | .func _ xs ys, b, h => by
    cases b <;> simp [AV.beq] at h
    rename_i us vs
    simp [h.1.1, AV.eq_of_beqs xs us h.1.2, AV.eq_of_beqs ys vs h.2]
  | .nilFunc, b, h => by cases b <;> simp_all [AV.beq]
  | .iface _ v, b, h => by
    cases b <;> simp [AV.beq] at h
    simp [h.1, AV.eq_of_beq v _ h.2]
  | .nilIface, b, h => by cases b <;> simp_all [AV.beq]
  | .agg xs, b, h => by
    cases b <;> simp [AV.beq] at h
    simp [AV.eq_of_beqs xs _ h]
  | .tuple xs, b, h => by
    cases b <;> simp [AV.beq] at h
    simp [AV.eq_of_beqs xs _ h]
theorem AV.eq_of_beqs : ∀ a b : List AV, AV.beqs a b = true → a = b
  | [], b, h => by cases b <;> simp_all [AV.beqs]
  | x :: xs, b, h => by
    cases b <;> simp [AV.beqs] at h
    simp [AV.eq_of_beq x _ h.1, AV.eq_of_beqs xs _ h.2]
end

/-- What lies in a block. 'own': it was made by the run and may be written; 'marked': its bytes may be a string's constant's. -/
inductive AObj where
  | cells (c : List AV) (elem : TypeId) (own marked : Bool)
  | map (es : List (AV × AV))
  | iter (s : List UInt8) (pos : Nat)
  | dead

instance : Inhabited AObj := ⟨.dead⟩

def beqPairs : List (AV × AV) → List (AV × AV) → Bool
  | [], [] => true
  | (a, b) :: xs, (c, d) :: ys => a.beq c && b.beq d && beqPairs xs ys
  | _, _ => false

theorem beqPairs_refl : ∀ l, beqPairs l l = true
  | [] => rfl
  | (a, b) :: xs => by simp [beqPairs, AV.beq_refl, beqPairs_refl xs]

theorem eq_of_beqPairs : ∀ a b, beqPairs a b = true → a = b
  | [], b, h => by cases b <;> simp_all [beqPairs]
  | (x, y) :: xs, b, h => by
    cases b with
    | nil => simp [beqPairs] at h
    | cons p ys =>
      obtain ⟨u, v⟩ := p
      simp [beqPairs] at h
      rw [AV.eq_of_beq _ _ h.1.1, AV.eq_of_beq _ _ h.1.2, eq_of_beqPairs _ _ h.2]

def AObj.beq : AObj → AObj → Bool
  | .cells c e o m, .cells d f p n => AV.beqs c d && e == f && o == p && m == n
  | .map a, .map b => beqPairs a b
  | .iter s p, .iter t q => s == t && p == q
  | .dead, .dead => true
  | _, _ => false

theorem AObj.beq_refl : ∀ o : AObj, o.beq o = true
  | .cells c _ _ _ => by simp [AObj.beq, AV.beqs_refl]
  | .map es => by simp [AObj.beq, beqPairs_refl]
  | .iter s p => by simp [AObj.beq]
  | .dead => rfl

theorem AObj.eq_of_beq (a b : AObj) (h : a.beq b = true) : a = b := by
  cases a <;> cases b <;> simp [AObj.beq] at h
  · simp [AV.eq_of_beqs _ _ h.1.1.1, h.1.1.2, h.1.2, h.2]
  · simp [eq_of_beqPairs _ _ h]
  · simp [h.1, h.2]
  · rfl

/-- Memory: a tree by the digits of a block's number. -/
inductive Tree where
  | leaf
  | node (l : Tree) (v : Option AObj) (r : Tree)

def Tree.get : Tree → Nat → Option AObj
  | .leaf, _ => none
  | .node l v r, n => if n = 0 then v else if n % 2 = 1 then l.get (n / 2) else r.get (n / 2 - 1)

/-- With fuel: at most as many digits as the number says. -/
def Tree.single : Nat → Nat → AObj → Tree
  | 0, _, o => .node .leaf (some o) .leaf
  | f + 1, n, o => if n = 0 then .node .leaf (some o) .leaf else if n % 2 = 1 then .node (Tree.single f (n / 2) o) none .leaf else .node .leaf none (Tree.single f (n / 2 - 1) o)

def Tree.set : Tree → Nat → AObj → Tree
  | .leaf, n, o => Tree.single n n o
  | .node l v r, n, o => if n = 0 then .node l (some o) r else if n % 2 = 1 then .node (l.set (n / 2) o) v r else .node l v (r.set (n / 2 - 1) o)

theorem Tree.get_single : ∀ (f n m : Nat) (o : AObj), n ≤ f → (Tree.single f n o).get m = if m = n then some o else none
  | 0, n, m, o, h => by
    have : n = 0 := by omega
    subst this
    simp only [Tree.single, Tree.get]
    split
    · rfl
    · split <;> rfl
  | f + 1, n, m, o, h => by
    unfold Tree.single
    by_cases h0 : n = 0
    · subst h0
      simp only [if_true, Tree.get]
      split
      · rfl
      · split <;> rfl
    · rw [if_neg h0]
      by_cases h1 : n % 2 = 1
      · rw [if_pos h1]
        simp only [Tree.get]
        by_cases m0 : m = 0
        · rw [if_pos m0, if_neg (by omega)]
        · rw [if_neg m0]
          by_cases m1 : m % 2 = 1
          · rw [if_pos m1, Tree.get_single f _ _ _ (by omega)]
            by_cases e : m = n
            · rw [if_pos e, if_pos (by omega)]
            · rw [if_neg e, if_neg (by omega)]
          · rw [if_neg m1, if_neg (by omega)]
      · rw [if_neg h1]
        simp only [Tree.get]
        by_cases m0 : m = 0
        · rw [if_pos m0, if_neg (by omega)]
        · rw [if_neg m0]
          by_cases m1 : m % 2 = 1
          · rw [if_pos m1, if_neg (by omega)]
          · rw [if_neg m1, Tree.get_single f _ _ _ (by omega)]
            by_cases e : m = n
            · rw [if_pos e, if_pos (by omega)]
            · rw [if_neg e, if_neg (by omega)]

theorem Tree.get_set : ∀ (t : Tree) (n m : Nat) (o : AObj), (t.set n o).get m = if m = n then some o else t.get m
  | .leaf, n, m, o => by simp [Tree.set, Tree.get_single n n m o (Nat.le_refl _), Tree.get]
  | .node l v r, n, m, o => by
    unfold Tree.set
    by_cases h0 : n = 0
    · subst h0
      simp only [if_true, Tree.get]
      by_cases m0 : m = 0
      · simp [m0]
      · simp [m0]
    · rw [if_neg h0]
      by_cases h1 : n % 2 = 1
      · rw [if_pos h1]
        simp only [Tree.get]
        by_cases m0 : m = 0
        · rw [if_pos m0, if_neg (by omega), if_pos m0]
        · rw [if_neg m0, if_neg m0]
          by_cases m1 : m % 2 = 1
          · rw [if_pos m1, if_pos m1, Tree.get_set l]
            by_cases e : m = n
            · rw [if_pos e, if_pos (by omega)]
            · rw [if_neg e, if_neg (by omega)]
          · rw [if_neg m1, if_neg m1, if_neg (by omega)]
      · rw [if_neg h1]
        simp only [Tree.get]
        by_cases m0 : m = 0
        · rw [if_pos m0, if_neg (by omega), if_pos m0]
        · rw [if_neg m0, if_neg m0]
          by_cases m1 : m % 2 = 1
          · rw [if_pos m1, if_pos m1, if_neg (by omega)]
          · rw [if_neg m1, if_neg m1, Tree.get_set r]
            by_cases e : m = n
            · rw [if_pos e, if_pos (by omega)]
            · rw [if_neg e, if_neg (by omega)]

structure Heap where
  next : Nat
  tree : Tree

def Heap.get (H : Heap) (b : Nat) : Option AObj := H.tree.get b
def Heap.set (H : Heap) (b : Nat) (o : AObj) : Heap := { H with tree := H.tree.set b o }
def Heap.push (H : Heap) (o : AObj) : Heap := { next := H.next + 1, tree := H.tree.set H.next o }

theorem Heap.get_set (H : Heap) (b c : Nat) (o : AObj) : (H.set b o).get c = if c = b then some o else H.get c := Tree.get_set _ _ _ _
theorem Heap.get_push (H : Heap) (c : Nat) (o : AObj) : (H.push o).get c = if c = H.next then some o else H.get c := Tree.get_set _ _ _ _
@[simp] theorem Heap.next_set (H : Heap) (b : Nat) (o : AObj) : (H.set b o).next = H.next := rfl
@[simp] theorem Heap.next_push (H : Heap) (o : AObj) : (H.push o).next = H.next + 1 := rfl
theorem Heap.get_set_same (H : Heap) (b : Nat) (o : AObj) : (H.set b o).get b = some o := by simp [Heap.get_set]
theorem Heap.get_set_ne (H : Heap) {b c : Nat} (o : AObj) (h : c ≠ b) : (H.set b o).get c = H.get c := by simp [Heap.get_set, h]

/-- Cells written one behind the other. -/
def writeAt : List AV → Nat → List AV → List AV
  | c, _, [] => c
  | c, o, v :: vs => writeAt (c.set o v) (o + 1) vs

theorem length_writeAt : ∀ (vs c : List AV) (o : Nat), (writeAt c o vs).length = c.length
  | [], _, _ => rfl
  | v :: vs, c, o => by simp [writeAt, length_writeAt vs]

end Go.Abs

/- The abstract machine's run: what one operation, a region, a body, a call comes to in the abstract memory; 'none' where it is not followed. -/
namespace Go.Abs
set_option linter.unusedVariables false

def mapOpt {α β : Type} (f : α → Option β) : List α → Option (List β)
  | [] => some []
  | x :: xs => match f x with
    | none => none
    | some y => match mapOpt f xs with
      | none => none
      | some ys => some (y :: ys)

/-! ## constants, operands -/
def ofBasic : Value → Option AV
  | .bool b => some (.bool b)
  | .int k n => some (.int k n)
  | .string s => some (.str s.data.toList)
  | .pointer none => some (.ptr none)
  | .slice none 0 0 => some (.slice none 0 0 none)
  | .map none => some (.map none)
  | .nilFunc => some .nilFunc
  | .nilIface => some .nilIface
  | _ => none

def ofConst : Value → Option AV
  | .agg cs => (mapOpt ofBasic cs.toList).map .agg
  | v => ofBasic v

def ev (P : Program) (T : List AV) : Operand → Option AV
  | .tmp t => some (T.getD t .undef)
  | .const v => ofConst v
  | .global g => if g < P.globals.size then some (.ptr (some (g, 0))) else none
  | .func f => some (.func (.func f) [] [])

def tsz (P : Program) (t : TypeId) : Option Nat := (P.info? t).map (·.size)
def tbytes (P : Program) (t : TypeId) : Option Nat := (P.info? t).map (·.bytes)
def tagg (P : Program) (t : TypeId) : Option Bool :=
  match P.underlying t with
  | some (.struct _) => some true
  | some (.array _ _) => some true
  | some _ => some false
  | none => none
def tzero (P : Program) (t : TypeId) : Option AV :=
  match P.info? t with
  | some i => match i.zero with
    | some z => ofConst z
    | none => none
  | none => none

/-! ## memory -/
def cellsAt (H : Heap) (b o n : Nat) : Option (List AV) :=
  match H.get b with
  | some (.cells c _ _ _) => if o + n ≤ c.length then some ((c.drop o).take n) else none
  | _ => none

def readVar (agg : Bool) (n o : Nat) : AObj → Option AV
  | .cells c _ _ _ => if agg then (if o + n ≤ c.length then some (.agg ((c.drop o).take n)) else none) else c[o]?
  | _ => none

def writeCells (H : Heap) (b o : Nat) (vs : List AV) : Option Heap :=
  match vs with
  | [] => some H
  | _ => match H.get b with
    | some (.cells c e true m) => if o + vs.length ≤ c.length && vs.all AV.one then some (H.set b (.cells (writeAt c o vs) e true m)) else none
    | _ => none

/-- What an operation does: a value; a new block; a look at blocks; or more. -/
inductive Sm where
  | pure (v : AV)
  | alloc (o : AObj) (mk : Nat → AV)
  | read (bs : List Nat) (k : List AObj → Option AV)
  | heavy (k : Heap → Option (AV × Heap))

def Sm.run : Sm → Heap → Option (AV × Heap)
  | .pure v, H => some (v, H)
  | .alloc o mk, H => some (mk H.next, H.push o)
  | .read bs k, H => match mapOpt H.get bs with
    | some os => match k os with
      | some v => some (v, H)
      | none => none
    | none => none
  | .heavy k, H => k H

/-! ## operations -/
def fillA (place : Nat → Option (Nat × Nat)) (cells : List AV) : List (Nat × AV) → Option (List AV)
  | [] => some cells
  | (i, v) :: rest => match place i with
    | none => none
    | some (off, size) => if v.cells.length ≠ size || off + v.cells.length > cells.length then none else fillA place (writeAt cells off v.cells) rest

def fieldPlaces (P : Program) : List Field → Option (List (Nat × Nat))
  | [] => some []
  | f :: fs => match tsz P f.type, fieldPlaces P fs with
    | some n, some r => some ((f.offset, n) :: r)
    | _, _ => none

def evParts (P : Program) (T : List AV) : List (Nat × Operand) → Option (List (Nat × AV))
  | [] => some []
  | (i, x) :: r => match ev P T x, evParts P T r with
    | some v, some vs => some ((i, v) :: vs)
    | _, _ => none

def zeros (zero : List AV) : Nat → List AV
  | 0 => []
  | n + 1 => zero ++ zeros zero n

def buildA (P : Program) (t : TypeId) (parts : List (Nat × AV)) : Option AV :=
  match tzero P t, P.underlying t with
  | some z, some (.struct fields) => match fieldPlaces P fields.toList with
    | some places => (fillA (places[·]?) z.cells parts).map .agg
    | none => none
  | some z, some (.array _ elem) => match tsz P elem with
    | some size => (fillA (fun i => some (i * size, size)) z.cells parts).map .agg
    | none => none
  | _, _ => none

def buildSliceA (P : Program) (t : TypeId) (len : Nat) (parts : List (Nat × AV)) : Option Sm :=
  match P.underlying t with
  | some (.slice elem) => match tsz P elem, tzero P elem with
    | some size, some z => if len * size > 2 ^ 24 || z.cells.length ≠ size then none else
      match fillA (fun i => some (i * size, size)) (zeros z.cells len) parts with
      | some cells => some (.alloc (.cells cells elem true false) fun n => .slice (some (n, 0)) len len none)
      | none => none
    | _, _ => none
  | _ => none

def partA (P : Program) (t : TypeId) (cs : List AV) (off : Nat) : Option AV :=
  match tagg P t, tsz P t with
  | some true, some n => if off + n ≤ cs.length then some (.agg ((cs.drop off).take n)) else none
  | some false, _ => cs[off]?
  | _, _ => none

/-- Equality of data without addresses. -/
def eqFieldsA (eq : TypeId → AV → AV → Option Bool) (P : Program) (xs ys : List AV) : List Field → Option Bool
  | [] => some true
  | f :: fs => if f.name = "_" then eqFieldsA eq P xs ys fs else
    match partA P f.type xs f.offset, partA P f.type ys f.offset with
    | some x, some y => match eq f.type x y with
      | some true => eqFieldsA eq P xs ys fs
      | some false => some false
      | none => none
    | _, _ => none

def eqItemsA (eq : AV → AV → Option Bool) (P : Program) (elem : TypeId) (n : Nat) (xs ys : List AV) : List Nat → Option Bool
  | [] => some true
  | i :: is => match partA P elem xs (i * n), partA P elem ys (i * n) with
    | some x, some y => match eq x y with
      | some true => eqItemsA eq P elem n xs ys is
      | some false => some false
      | none => none
    | _, _ => none

def eqA (P : Program) : Nat → TypeId → AV → AV → Option Bool
  | 0, _, _, _ => none
  | d + 1, t, x, y =>
    match P.underlying t, x, y with
    | some .bool, .bool a, .bool b => some (a == b)
    | some (.int _), .int k a, .int k' b => if k = k' then some (a == b) else none
    | some .string, .str a, .str b => some (a == b)
    | some (.struct fields), .agg xs, .agg ys => if P.stoodInHeld t then none else eqFieldsA (eqA P d) P xs ys fields.toList
    | some (.array len elem), .agg xs, .agg ys => match tsz P elem with
      | some n => eqItemsA (eqA P d elem) P elem n xs ys (List.range len)
      | none => none
    | _, _, _ => none

def eqRead (a b : Nat × Nat) : List AObj → Option AV
  | [.cells c _ true false, .cells d _ true false] => if a.2 < c.length && b.2 < d.length then some (.bool false) else none
  | _ => none

/-- '==', with what it has to look at. -/
def eqSem (P : Program) (t : TypeId) (x y : AV) (neg : Bool) : Option Sm :=
  match P.underlying t, x, y with
  | some (.pointer _), .ptr none, .ptr b => some (.pure (.bool (b.isNone != neg)))
  | some (.pointer _), .ptr (some _), .ptr none => some (.pure (.bool (false != neg)))
  | some (.pointer e), .ptr (some a), .ptr (some b) =>
    if (tsz P e).getD 0 = 0 then none else
    if a.1 = b.1 then some (.pure (.bool ((a.2 == b.2) != neg))) else
    some (.read [a.1, b.1] fun os => match eqRead a b os with | some _ => some (.bool (false != neg)) | none => none)
  | some (.slice _), .slice none _ _ _, .slice b _ _ _ => some (.pure (.bool (b.isNone != neg)))
  | some (.slice _), .slice (some _) _ _ _, .slice none _ _ _ => some (.pure (.bool (false != neg)))
  | some (.map _ _), .map none, .map b => some (.pure (.bool (b.isNone != neg)))
  | some (.map _ _), .map (some _), .map none => some (.pure (.bool (false != neg)))
  | some (.func _ _ _), .nilFunc, .nilFunc => some (.pure (.bool (true != neg)))
  | some (.func _ _ _), .nilFunc, .func _ _ _ => some (.pure (.bool (false != neg)))
  | some (.func _ _ _), .func _ _ _, .nilFunc => some (.pure (.bool (false != neg)))
  | some (.struct _), .agg _, .agg _ | some (.array _ _), .agg _, .agg _ =>
    if P.eqGuardType P.depth t then none else
    match eqA P 8 t x y with
    | some r => some (.pure (.bool (r != neg)))
    | none => none
  | _, _, _ => none

def strOp (op : BinOp) (x y : List UInt8) : Option AV :=
  match op with
  | .add => if x.length + y.length ≤ 2 ^ 62 then some (.str (x ++ y)) else none
  | .eql => some (.bool (x == y))
  | .neq => some (.bool !(x == y))
  | .lss => some (.bool (Op.bytesLess x y))
  | .leq => some (.bool (Op.bytesLess x y || x == y))
  | .gtr => some (.bool !(Op.bytesLess x y || x == y))
  | .geq => some (.bool !(Op.bytesLess x y))
  | _ => none

def intOp (op : BinOp) (k : IntKind) (a b : Int) : Option AV :=
  match op with
  | .add => some (.int k (k.wrap (a + b)))
  | .sub => some (.int k (k.wrap (a - b)))
  | .mul => some (.int k (k.wrap (a * b)))
  | .quo => if b = 0 then none else some (.int k (k.wrap (a.tdiv b)))
  | .rem => if b = 0 then none else some (.int k (a.tmod b))
  | .and => some (.int k (k.wrap (BitVec.ofInt k.bits a &&& BitVec.ofInt k.bits b).toNat))
  | .or => some (.int k (k.wrap (BitVec.ofInt k.bits a ||| BitVec.ofInt k.bits b).toNat))
  | .xor => some (.int k (k.wrap (BitVec.ofInt k.bits a ^^^ BitVec.ofInt k.bits b).toNat))
  | .andNot => some (.int k (k.wrap (BitVec.ofInt k.bits a &&& ~~~(BitVec.ofInt k.bits b)).toNat))
  | .eql => some (.bool (a == b))
  | .neq => some (.bool (a != b))
  | .lss => some (.bool (a < b))
  | .leq => some (.bool (a ≤ b))
  | .gtr => some (.bool (a > b))
  | .geq => some (.bool (a ≥ b))
  | _ => none

def shiftOp (op : BinOp) (k : IntKind) (a b : Int) : Option AV :=
  if b < 0 then none else
  match op with
  | .shl => some (.int k (k.wrap (a * 2 ^ (min b.toNat k.bits))))
  | .shr => some (.int k (a.fdiv (2 ^ (min b.toNat k.bits))))
  | _ => none

def binSem (P : Program) (op : BinOp) (t : TypeId) (x y : AV) : Option Sm :=
  match op, x, y with
  | .shl, .int k a, .int _ b | .shr, .int k a, .int _ b => (shiftOp op k a b).map .pure
  | _, .int k a, .int k' b => if k = k' then (intOp op k a b).map .pure else none
  | _, .str a, .str b => (strOp op a b).map .pure
  | .eql, .bool a, .bool b => match P.underlying t with
    | some .bool => some (.pure (.bool (a == b)))
    | _ => none
  | .neq, .bool a, .bool b => match P.underlying t with
    | some .bool => some (.pure (.bool !(a == b)))
    | _ => none
  | .eql, x, y => eqSem P t x y false
  | .neq, x, y => eqSem P t x y true
  | _, _, _ => none

def unSem (op : UnOp) (x : AV) : Option AV :=
  match op, x with
  | .not, .bool b => some (.bool !b)
  | .neg, .int k n => some (.int k (k.wrap (0 - n)))
  | .xor, .int k n => some (.int k (k.wrap (BitVec.ofInt k.bits (if k.signed then -1 else k.max) ^^^ BitVec.ofInt k.bits n).toNat))
  | _, _ => none

def bytesOfCells : List AV → Option (List UInt8)
  | [] => some []
  | .int .u8 n :: r => match bytesOfCells r with
    | some bs => some (UInt8.ofNat n.toNat :: bs)
    | none => none
  | _ => none

def cellsOfBytes (s : List UInt8) : List AV := s.map fun b => .int .u8 b.toNat

def convSem (P : Program) (src dst : TypeId) (x : AV) : Option Sm :=
  match P.underlying src, P.underlying dst, x with
  | some _, some (.int k), .int _ n => some (.pure (.int k (k.wrap n)))
  | some _, some .string, .str s => some (.pure (.str s))
  | some _, some (.slice e), .str s => match P.underlying e with
    | some (.int .u8) => if tsz P e = some 1 ∧ s.length ≤ 2 ^ 62 then some (.alloc (.cells (cellsOfBytes s) e true true) fun n => .slice (some (n, 0)) s.length s.length (some 1)) else none
    | _ => none
  | some (.slice _), some (.slice e), .slice (some a) n c ex => if src = dst ∧ 0 < c then
      match P.underlying e with
      | some (.int .u8) => some (.heavy fun H => match H.get a.1 with
        | some (.cells cs el true _) => some (.slice (some a) n c ex, H.set a.1 (.cells cs el true true))
        | _ => none)
      | _ => none
    else none
  | some (.slice e), some .string, .slice a n _ _ => match P.underlying e, a with
    | some (.int .u8), none => some (.pure (.str []))
    | some (.int .u8), some (b, o) => some (.read [b] fun
      | [.cells c _ _ _] => if o + n ≤ c.length then (bytesOfCells ((c.drop o).take n)).map .str else none
      | _ => none)
    | _, _ => none
  | _, _, _ => none

/-- a bound of a slice expression -/
def boundA (x : AV) (y : Nat) : Option Nat :=
  match x with
  | .int _ i => if 0 ≤ i ∧ i ≤ y then some i.toNat else none
  | _ => none

def boundsA (len cap : Nat) (lo hi mx : Option AV) : Option (Nat × Nat × Nat) :=
  match (match mx with | some v => boundA v cap | none => some cap) with
  | none => none
  | some m =>
    match (match hi, mx with | some v, some _ => boundA v m | some v, none => boundA v cap | none, none => some len | none, some _ => none) with
    | none => none
    | some h =>
      match (match lo with | some v => boundA v h | none => some 0) with
      | none => none
      | some l => some (l, h, m)

def evOpt (P : Program) (T : List AV) : Option Operand → Option (Option AV)
  | none => some none
  | some x => (ev P T x).map some

def sliceSem (P : Program) (t : TypeId) (x : AV) (lo hi mx : Option AV) : Option AV :=
  match P.underlying t, x with
  | some (.array n elem), .ptr (some (b, o)) => match boundsA n n lo hi mx, tsz P elem with
    | some (l, h, m), some size => some (.slice (some (b, o + l * size)) (h - l) (m - l) none)
    | _, _ => none
  | some .string, .str s => match mx, boundsA s.length s.length lo hi none with
    | none, some (l, h, _) => some (.str ((s.take h).drop l))
    | _, _ => none
  | some (.slice elem), .slice a len cap ex => match boundsA len cap lo hi mx, tsz P elem with
    | some (l, h, m), some size => match a with
      | none => some (.slice none 0 0 none)
      | some (b, o) => if ex.isNone || ex == some size then some (.slice (some (b, o + l * size)) (h - l) (m - l) (if mx.isSome then none else ex)) else none
    | _, _ => none
  | _, _ => none

def indexAddrSem (P : Program) (t : TypeId) (x ix : AV) : Option AV :=
  match P.underlying t, x, ix with
  | some (.array len elem), .ptr (some (b, o)), .int _ i => match tsz P elem with
    | some size => if 0 ≤ i ∧ i < len then some (.ptr (some (b, o + i.toNat * size))) else none
    | none => none
  | some (.slice elem), .slice (some (b, o)) len _ _, .int _ i => match tsz P elem with
    | some size => if 0 ≤ i ∧ i < len then some (.ptr (some (b, o + i.toNat * size))) else none
    | none => none
  | _, _, _ => none

def indexSem (P : Program) (t : TypeId) (x ix : AV) : Option AV :=
  match P.underlying t, x, ix with
  | some (.array len elem), .agg cs, .int _ i => match tsz P elem with
    | some size => if 0 ≤ i ∧ i < len then partA P elem cs (i.toNat * size) else none
    | none => none
  | some .string, .str s, .int _ i => if 0 ≤ i then match s[i.toNat]? with
      | some b => some (.int .u8 b.toNat)
      | none => none
    else none
  | _, _, _ => none

def keyEq : AV → AV → Option Bool
  | .int k a, .int k' b => if k = k' then some (a == b) else none
  | .str a, .str b => some (a == b)
  | .bool a, .bool b => some (a == b)
  | _, _ => none

def findA (k : AV) : List (AV × AV) → Nat → Option (Option (Nat × AV))
  | [], _ => some none
  | (x, v) :: r, i => match keyEq k x with
    | some true => some (some (i, v))
    | some false => findA k r (i + 1)
    | none => none

/-- a key of a plain kind, of the map's key type -/
def keyFits (P : Program) (t : TypeId) : AV → Bool
  | .int _ _ => match P.underlying t with | some (.int _) => true | _ => false
  | .str _ => match P.underlying t with | some .string => true | _ => false
  | .bool _ => match P.underlying t with | some .bool => true | _ => false
  | _ => false

def lookupSem (P : Program) (t : TypeId) (x k : AV) (ok : Bool) : Option Sm :=
  match P.underlying t with
  | some (.map key elem) => if keyFits P key k then
      match tzero P elem, x with
      | some z, .map none => some (.pure (if ok then .tuple [z, .bool false] else z))
      | some z, .map (some r) => some (.read [r] fun
        | [.map es] => match findA k es 0 with
          | some (some (_, v)) => some (if ok then .tuple [v, .bool true] else v)
          | some none => some (if ok then .tuple [z, .bool false] else z)
          | none => none
        | _ => none)
      | _, _ => none
    else none
  | _ => none

def mapSet (es : List (AV × AV)) (i : Nat) (k v : AV) : List (AV × AV) := es.set i (k, v)

def updateSem (P : Program) (t : TypeId) (m k v : AV) : Option Sm :=
  match P.underlying t, m with
  | some (.map key _), .map (some r) => if keyFits P key k then
      some (.heavy fun H => match H.get r with
        | some (.map es) => match findA k es 0 with
          | some (some (i, _)) => some (.undef, H.set r (.map (mapSet es i k v)))
          | some none => some (.undef, H.set r (.map (es ++ [(k, v)])))
          | none => none
        | _ => none)
    else none
  | _, _ => none

def makeSliceSem (P : Program) (t : TypeId) (len cap : AV) : Option Sm :=
  match P.underlying t, len, cap with
  | some (.slice elem), .int _ l, .int _ c => match tbytes P elem, tsz P elem, tzero P elem with
    | some bytes, some size, some z =>
      if 0 ≤ l ∧ l ≤ c ∧ c ≤ 2 ^ 47 ∧ bytes * c ≤ 2 ^ 48 ∧ z.cells.length = size then
        some (.alloc (.cells (zeros z.cells c.toNat) elem true false) fun n => .slice (some (n, 0)) l.toNat c.toNat none)
      else none
    | _, _, _ => none
  | _, _, _ => none

/-! ## builtins -/
def srcLen : AV → Option Nat
  | .slice _ n _ _ => some n
  | .str s => some s.length
  | _ => none

def srcCells (H : Heap) (size n : Nat) : AV → Option (List AV)
  | .slice none _ _ _ => some []
  | .slice (some (b, o)) len _ _ => if n * size = 0 then some [] else if n ≤ len then cellsAt H b o (n * size) else none
  | .str s => some (cellsOfBytes (s.take n))
  | _ => none

/-- the growing arm: is the sum of the bytes within what Go's growslice takes, whatever the capacity was? -/
def growFits (need cap bytes : Nat) (known : Bool) : Bool :=
  need ≤ 2 ^ 62 && ((need * bytes ≤ 2 ^ 46 && (need ≤ 2 ^ 46)) || (known && cap == 0 && need * bytes ≤ 2 ^ 48))

def appendA (elem : TypeId) (size bytes : Nat) (base : Option (Nat × Nat)) (sLen sCap : Nat) (sl : Option Nat) (n : Nat) (new : List AV) (H : Heap) : Option (AV × Heap) :=
  if sLen + n ≤ sCap then
    match base with
    | none => some (.slice none 0 0 none, H)
    | some (b, o) => match writeCells H b (o + sLen * size) new with
      | some H' => some (.slice (some (b, o)) (sLen + n) sCap sl, H')
      | none => none
  else if growFits (sLen + n) sCap bytes (base.isNone || sl.isNone) then
    match srcCells H size sLen (.slice base sLen sCap sl) with
    | none => none
    | some old => match base, sl with
      | some (b, o), some s => match H.get b with
        | some (.cells c _ true false) => if s = size ∧ o + sLen * size ≤ c.length ∧ new.all AV.one then some (.slice (some (H.next, 0)) (sLen + n) (sLen + n) (some size), (H.set b .dead).push (.cells (old ++ new) elem true false)) else none
        | _ => none
      | _, _ => some (.slice (some (H.next, 0)) (sLen + n) (sLen + n) (some size), H.push (.cells (old ++ new) elem true false))
  else none

/-- 'append(s, make([]T, n)...)' is handed n itself. -/
def isCount (P : Program) (u : Option TypeId) : Bool :=
  match u with
  | some u => match P.underlying u with
    | some (.int _) => true
    | _ => false
  | none => false

def appendSem (P : Program) (ts : Array TypeId) (s x : AV) : Option Sm :=
  match ts[0]? with
  | none => none
  | some t => match P.underlying t with
    | some (.slice elem) => match tsz P elem, tbytes P elem, tzero P elem, s with
      | some size, some bytes, some z, .slice base sLen sCap ex =>
        if z.cells.length ≠ size then none else
        if isCount P ts[1]? then match x with
          | .int _ l => if 0 ≤ l ∧ l ≤ 2 ^ 47 ∧ l * bytes ≤ 2 ^ 48 then
              some (.heavy fun H => appendA elem size bytes base sLen sCap ex l.toNat (zeros z.cells l.toNat) H) else none
          | _ => none
        else match ts[1]? with
          | some u => match P.underlying u, srcLen x with
            | some _, some n => some (.heavy fun H => match srcCells H size n x with
              | some new => if new.length = n * size then appendA elem size bytes base sLen sCap ex n new H else none
              | none => none)
            | _, _ => none
          | none => none
      | _, _, _, _ => none
    | _ => none

def copySem (P : Program) (ts : Array TypeId) (d x : AV) : Option Sm :=
  match ts[0]? with
  | none => none
  | some t => match P.underlying t, d, srcLen x with
    | some (.slice elem), .slice base dLen _ _, some m => match tsz P elem with
      | some size => some (.heavy fun H => match srcCells H size (Nat.min m dLen) x with
        | some cells => if cells.length ≠ Nat.min m dLen * size then none else
          match base with
          | none => some (.int .i64 (Nat.min m dLen : Nat), H)
          | some (b, o) => match writeCells H b o cells with
            | some H' => some (.int .i64 (Nat.min m dLen : Nat), H')
            | none => none
        | none => none)
      | none => none
    | _, _, _ => none

def clearSem (P : Program) (ts : Array TypeId) (x : AV) : Option Sm :=
  match ts[0]? with
  | none => none
  | some t => match P.underlying t, x with
    | some _, .map none => some (.pure .undef)
    | some _, .slice none _ _ _ => some (.pure .undef)
    | some (.map _ _), .map (some r) => some (.heavy fun H => match H.get r with
      | some (.map _) => some (.undef, H.set r (.map []))
      | _ => none)
    | some (.slice elem), .slice (some (b, o)) n _ _ => if n = 0 then some (.pure .undef) else
      match tzero P elem, tsz P elem with
      | some z, some size => if z.cells.length ≠ size then none else some (.heavy fun H => match writeCells H b o (zeros z.cells n) with
        | some H' => some (.undef, H')
        | none => none)
      | _, _ => none
    | _, _ => none

def deleteSem (P : Program) (ts : Array TypeId) (m k : AV) : Option Sm :=
  match ts[0]? with
  | none => none
  | some t => match P.underlying t, m with
    | some (.map key _), .map none => if keyFits P key k then some (.pure .undef) else none
    | some (.map key _), .map (some r) => if keyFits P key k then
        some (.heavy fun H => match H.get r with
          | some (.map es) => match findA k es 0 with
            | some (some (i, _)) => some (.undef, H.set r (.map (es.eraseIdx i)))
            | some none => some (.undef, H)
            | none => none
          | _ => none)
      else none
    | _, _ => none

def lenSem (P : Program) (ts : Array TypeId) (x : AV) : Option Sm :=
  match ts[0]? with
  | none => none
  | some t => match P.underlying t, x with
    | some .string, .str s => some (.pure (.int .i64 s.length))
    | some (.slice _), .slice _ n _ _ => some (.pure (.int .i64 n))
    | some (.map _ _), .map none => some (.pure (.int .i64 0))
    | some (.map _ _), .map (some r) => some (.read [r] fun
      | [.map es] => some (.int .i64 es.length)
      | _ => none)
    | some (.array n _), _ => some (.pure (.int .i64 n))
    | some (.pointer arr), _ => match P.underlying arr with
      | some (.array n _) => some (.pure (.int .i64 n))
      | _ => none
    | _, _ => none

def capSem (P : Program) (ts : Array TypeId) (x : AV) : Option Sm :=
  match ts[0]? with
  | none => none
  | some t => match P.underlying t, x with
    | some (.slice _), .slice none _ _ _ => some (.pure (.int .i64 0))
    | some (.slice _), .slice (some _) _ c none => some (.pure (.int .i64 c))
    | some (.array n _), _ => some (.pure (.int .i64 n))
    | _, _ => none

def maxA : AV → List AV → Option AV
  | x, [] => some x
  | .int k x, .int k' y :: r => if k = k' then maxA (.int k (if y > x then y else x)) r else none
  | _, _ => none

def minA : AV → List AV → Option AV
  | x, [] => some x
  | .int k x, .int k' y :: r => if k = k' then minA (.int k (if y < x then y else x)) r else none
  | _, _ => none

def builtinSem (P : Program) (b : Builtin) (ts : Array TypeId) (args : List AV) : Option Sm :=
  match b, args with
  | .append, [s, x] => appendSem P ts s x
  | .copy, [d, x] => copySem P ts d x
  | .clear, [x] => clearSem P ts x
  | .delete, [m, k] => deleteSem P ts m k
  | .len, [x] => lenSem P ts x
  | .cap, [x] => capSem P ts x
  | .max, x :: r => (maxA x r).map .pure
  | .min, x :: r => (minA x r).map .pure
  | _, _ => none

abbrev CallFn := FuncId → List AV → Heap → Option (AV × Heap)

def callSem (P : Program) (call : CallFn) (T : List AV) (c : Call) : Option Sm :=
  match mapOpt (ev P T) c.args.toList with
  | none => none
  | some args => match c.callee with
    | .builtin b => builtinSem P b c.argTypes args
    | .value f => match ev P T f with
      | some (.func (.func g) first captured) => some (.heavy fun H => call g (first ++ args ++ captured) H)
      | _ => none
    | .invoke _ _ => none

def sem (P : Program) (call : CallFn) (T : List AV) (op : Op) : Option Sm :=
  match op with
  | .move x | .assign x => (ev P T x).map .pure
  | .pick c a b => match ev P T c, ev P T a, ev P T b with
    | some (.bool t), some x, some y => some (.pure (if t then x else y))
    | _, _, _ => none
  | .alloc e => (tzero P e).map fun z => .alloc (.cells z.cells e true false) fun n => .ptr (some (n, 0))
  | .box e x => (ev P T x).map fun v => .alloc (.cells v.cells e true false) fun n => .ptr (some (n, 0))
  | .build t parts => match evParts P T parts.toList with
    | some ps => (buildA P t ps).map .pure
    | none => none
  | .buildSlice t len parts => match evParts P T parts.toList with
    | some ps => buildSliceA P t len ps
    | none => none
  | .load t a => match ev P T a, tagg P t, tsz P t with
    | some (.ptr (some (b, o))), some g, some n => some (.read [b] fun
      | [x] => readVar g n o x
      | _ => none)
    | _, _, _ => none
  | .store t a x => match ev P T a, ev P T x, tsz P t with
    | some (.ptr (some (b, o))), some v, some n => if v.cells.length ≠ n then none else
      some (.heavy fun H => match writeCells H b o v.cells with
        | some H' => some (.undef, H')
        | none => none)
    | _, _, _ => none
  | .nilCheck x => match ev P T x with
    | some (.ptr (some a)) => some (.pure (.ptr (some a)))
    | some (.func (.func f) xs ys) => some (.pure (.func (.func f) xs ys))
    | _ => none
  | .binOp op t x y _ => match ev P T x, ev P T y with
    | some a, some b => binSem P op t a b
    | _, _ => none
  | .unOp op _ x => match ev P T x with
    | some v => (unSem op v).map .pure
    | none => none
  | .convert src dst x => match ev P T x with
    | some v => convSem P src dst v
    | none => none
  | .sliceToArrayPointer arr x => match P.underlying arr, ev P T x with
    | some (.array n _), some (.slice (some a) len _ _) => if len < n then none else if n = 0 then none else some (.pure (.ptr (some a)))
    | _, _ => none
  | .makeInterface t x => match P.underlying t, ev P T x with
    | some (.interface _), _ => none
    | some _, some v => some (.pure (.iface t v))
    | _, _ => none
  | .makeFunc fn first captured => match mapOpt (ev P T) first.toList, mapOpt (ev P T) captured.toList with
    | some a, some b => some (.pure (.func fn a b))
    | _, _ => none
  | .makeMap t r => match P.underlying t, r with
    | some (.map _ _), none => some (.alloc (.map []) fun n => .map (some n))
    | some (.map _ _), some x => match ev P T x with
      | some (.int _ _) => some (.alloc (.map []) fun n => .map (some n))
      | _ => none
    | _, _ => none
  | .makeSlice t l c => match ev P T l, ev P T c with
    | some a, some b => makeSliceSem P t a b
    | _, _ => none
  | .slice t x lo hi mx => match ev P T x, evOpt P T lo, evOpt P T hi, evOpt P T mx with
    | some v, some l, some h, some m => (sliceSem P t v l h m).map .pure
    | _, _, _, _ => none
  | .fieldAddr s x f => match P.underlying s, ev P T x with
    | some (.struct fields), some (.ptr (some (b, o))) => match fields[f]? with
      | some fd => if (tsz P fd.type).getD 0 = 0 then none else some (.pure (.ptr (some (b, o + fd.offset))))
      | none => none
    | _, _ => none
  | .field t x f => match P.underlying t, ev P T x with
    | some (.struct fields), some (.agg cs) => match fields[f]? with
      | some fd => (partA P fd.type cs fd.offset).map .pure
      | none => none
    | _, _ => none
  | .indexAddr t x ix => match ev P T x, ev P T ix with
    | some a, some b => (indexAddrSem P t a b).map .pure
    | _, _ => none
  | .index t x ix => match ev P T x, ev P T ix with
    | some a, some b => (indexSem P t a b).map .pure
    | _, _ => none
  | .lookup t x k ok => match ev P T x, ev P T k with
    | some a, some b => lookupSem P t a b ok
    | _, _ => none
  | .mapUpdate t m k x | .insert t m k x => match ev P T m, ev P T k, ev P T x with
    | some a, some b, some v => updateSem P t a b v
    | _, _, _ => none
  | .extract t ix => match ev P T t with
    | some (.tuple vs) => (vs[ix]?).map .pure
    | _ => none
  | .range t x => match P.underlying t, ev P T x with
    | some .string, some (.str s) => some (.alloc (.iter s 0) fun n => .ptr (some (n, 0)))
    | _, _ => none
  | .next x st => match st, ev P T x with
    | true, some (.ptr (some (b, 0))) => some (.heavy fun H => match H.get b with
      | some (.iter s pos) => if pos < s.length then some (.tuple [.bool true, .int .i64 pos, .int .i32 (Utf8.decode ⟨s.toArray⟩ pos).1], H.set b (.iter s (pos + (Utf8.decode ⟨s.toArray⟩ pos).2))) else some (.tuple [.bool false], H)
      | _ => none)
    | _, _ => none
  | .call c => callSem P call T c
  | _ => none

/-! ## regions -/
def put (T : List AV) (d : Option Tmp) (v : AV) : List AV :=
  match d with
  | some d => T.set d v
  | none => T

def yieldedA (ops : Array Oper) (T : List AV) (j : Nat) : Option Bool :=
  match ops[j]? with
  | some o => match o.dst with
    | some d => match T[d]? with
      | some (.bool b) => some b
      | _ => none
    | none => none
  | none => none

def wantedA (ops : Array Oper) (T : List AV) (o : Oper) : Bool :=
  match o.guard with
  | none => true
  | some (j, want) => yieldedA ops T j == some want

def runOp (P : Program) (call : CallFn) (T : List AV) (o : Oper) (H : Heap) : Option (AV × Heap) :=
  match sem P call T o.op with
  | some s => s.run H
  | none => none

def runOps (P : Program) (call : CallFn) (ops : Array Oper) : List Oper → List AV → Heap → Option (List AV × Heap)
  | [], T, H => some (T, H)
  | o :: os, T, H =>
    if wantedA ops T o then
      match runOp P call T o H with
      | some (v, H') => runOps P call ops os (put T o.dst v) H'
      | none => none
    else runOps P call ops os (put T o.dst .undef) H

end Go.Abs

/- What it means that a world bears an abstract memory; that a run keeps what is not its own. -/
namespace Go.Abs
set_option linter.unusedVariables false

/-- Where an abstract block lies: in which block of the world, from which cell on, and how many cells are its own. -/
structure Place where
  blk : Nat
  off : Nat
  tot : Nat

abbrev Map := Nat → Option Place

mutual
def VRel (ρ : Map) : AV → Value → Prop
  | .bool b, v => v = .bool b
  | .int k n, v => v = .int k n
  | .str s, v => v = .string ⟨s.toArray⟩
  | .ptr none, v => v = .pointer none
  | .ptr (some a), v => ∃ p, ρ a.1 = some p ∧ v = .pointer (some ⟨p.blk, p.off + a.2, none⟩)
  | .slice none n c _, v => n = 0 ∧ c = 0 ∧ v = .slice none 0 0
  | .slice (some a) n c sl, v => ∃ p x c', ρ a.1 = some p ∧ v = .slice (some x) n c' ∧ n ≤ c ∧ c ≤ c' ∧
      (c' = 0 ∨ x = ⟨p.blk, p.off + a.2, none⟩) ∧ (c' = c ∨ ∃ s, sl = some s ∧ a.2 + c' * s ≤ p.tot)
  | .map none, v => v = .map none
  | .map (some r), v => ∃ p, ρ r = some p ∧ p.off = 0 ∧ v = .map (some p.blk)
  | .func f xs ys, v => ∃ us vs, v = .func f us vs ∧ VRels ρ xs us.toList ∧ VRels ρ ys vs.toList
  | .nilFunc, v => v = .nilFunc
  | .iface t x, v => ∃ y, v = .iface t y ∧ VRel ρ x y
  | .nilIface, v => v = .nilIface
  | .agg cs, v => ∃ ds, v = .agg ds ∧ VRels ρ cs ds.toList
  | .tuple cs, v => ∃ ds, v = .tuple ds ∧ VRels ρ cs ds.toList
def VRels (ρ : Map) : List AV → List Value → Prop
  | [], l => l = []
  | x :: xs, l => ∃ y ys, l = y :: ys ∧ VRel ρ x y ∧ VRels ρ xs ys
end

def Ext (ρ ρ' : Map) : Prop := ∀ b p, ρ b = some p → ρ' b = some p

theorem Ext.refl (ρ : Map) : Ext ρ ρ := fun _ _ h => h
theorem Ext.trans {ρ ρ' ρ'' : Map} (h : Ext ρ ρ') (h' : Ext ρ' ρ'') : Ext ρ ρ'' := fun b p x => h' b p (h b p x)

mutual
theorem VRel.mono {ρ ρ' : Map} (e : Ext ρ ρ') : ∀ (a : AV) (v : Value), VRel ρ a v → VRel ρ' a v
  | .bool _, _, h => h
  | .int _ _, _, h => h
  | .str _, _, h => h
  | .ptr none, _, h => h
  | .ptr (some _), _, ⟨p, h, r⟩ => ⟨p, e _ _ h, r⟩
  | .slice none _ _ _, _, h => h
  | .slice (some _) _ _ _, _, ⟨p, x, c', h, r⟩ => ⟨p, x, c', e _ _ h, r⟩
  | .map none, _, h => h
  | .map (some _), _, ⟨p, h, r⟩ => ⟨p, e _ _ h, r⟩
  | .func _ xs ys, _, ⟨us, vs, h, a, b⟩ => ⟨us, vs, h, VRels.mono e xs _ a, VRels.mono e ys _ b⟩
  | .nilFunc, _, h => h
  | .iface _ x, _, ⟨y, h, a⟩ => ⟨y, h, VRel.mono e x _ a⟩
  | .nilIface, _, h => h
  | .agg cs, _, ⟨ds, h, a⟩ => ⟨ds, h, VRels.mono e cs _ a⟩
  | .tuple cs, _, ⟨ds, h, a⟩ => ⟨ds, h, VRels.mono e cs _ a⟩
theorem VRels.mono {ρ ρ' : Map} (e : Ext ρ ρ') : ∀ (l : List AV) (m : List Value), VRels ρ l m → VRels ρ' l m
  | [], _, h => h
  | x :: xs, _, ⟨y, ys, h, a, b⟩ => ⟨y, ys, h, VRel.mono e x _ a, VRels.mono e xs _ b⟩
end

theorem VRels.length {ρ : Map} : ∀ {l : List AV} {m : List Value}, VRels ρ l m → m.length = l.length
  | [], _, h => by cases h; rfl
  | _ :: _, _, ⟨_, _, h, _, b⟩ => by subst h; simp [VRels.length b]

theorem VRels.get {ρ : Map} : ∀ {l : List AV} {m : List Value} (i : Nat) (a : AV), VRels ρ l m → l[i]? = some a → ∃ v, m[i]? = some v ∧ VRel ρ a v
  | [], _, i, a, h, e => by simp at e
  | x :: xs, _, 0, a, ⟨y, ys, h, hx, _⟩, e => by subst h; simp at e; subst e; exact ⟨y, by simp, hx⟩
  | x :: xs, _, i + 1, a, ⟨y, ys, h, _, hs⟩, e => by subst h; simp at e; simpa using VRels.get i a hs e

theorem VRels.mk {ρ : Map} : ∀ {l : List AV} {m : List Value}, m.length = l.length → (∀ (i : Nat) (a : AV) (v : Value), l[i]? = some a → m[i]? = some v → VRel ρ a v) → VRels ρ l m
  | [], m, h, _ => by simpa [VRels] using h
  | x :: xs, [], h, _ => by simp at h
  | x :: xs, y :: ys, h, g => ⟨y, ys, rfl, g 0 x y (by simp) (by simp), VRels.mk (by simpa using h) fun i a v ha hv => g (i + 1) a v (by simpa using ha) (by simpa using hv)⟩

theorem VRels.append {ρ : Map} : ∀ {l l' : List AV} {m m' : List Value}, VRels ρ l m → VRels ρ l' m' → VRels ρ (l ++ l') (m ++ m')
  | [], _, _, _, h, h' => by cases h; simpa using h'
  | _ :: _, _, _, _, ⟨y, ys, h, a, b⟩, h' => by subst h; exact ⟨y, ys ++ _, rfl, a, VRels.append b h'⟩

theorem VRels.take {ρ : Map} : ∀ {l : List AV} {m : List Value} (n : Nat), VRels ρ l m → VRels ρ (l.take n) (m.take n)
  | [], _, n, h => by cases h; simp [VRels]
  | _ :: _, _, 0, _ => by simp [VRels]
  | _ :: _, _, n + 1, ⟨y, ys, h, a, b⟩ => by subst h; exact ⟨y, _, rfl, a, VRels.take n b⟩

theorem VRels.drop {ρ : Map} : ∀ {l : List AV} {m : List Value} (n : Nat), VRels ρ l m → VRels ρ (l.drop n) (m.drop n)
  | [], _, n, h => by cases h; simp [VRels]
  | _ :: _, _, 0, h => by simpa using h
  | _ :: _, _, n + 1, ⟨y, ys, h, a, b⟩ => by subst h; simpa using VRels.drop n b

theorem VRels.set {ρ : Map} : ∀ {l : List AV} {m : List Value} (i : Nat) {a : AV} {v : Value}, VRels ρ l m → VRel ρ a v → VRels ρ (l.set i a) (m.set i v)
  | [], _, i, a, v, h, _ => by cases h; simp [VRels]
  | _ :: _, _, 0, a, v, ⟨y, ys, h, _, b⟩, g => by subst h; exact ⟨v, ys, rfl, g, b⟩
  | _ :: _, _, i + 1, a, v, ⟨y, ys, h, x, b⟩, g => by subst h; exact ⟨y, _, rfl, x, VRels.set i b g⟩

theorem VRels.map_eq {ρ : Map} {α : Type} (f : α → AV) (g : α → Value) (h : ∀ x, VRel ρ (f x) (g x)) : ∀ l : List α, VRels ρ (l.map f) (l.map g)
  | [] => rfl
  | x :: xs => ⟨g x, _, rfl, h x, VRels.map_eq f g h xs⟩

theorem VRel.undef (ρ : Map) : VRel ρ .undef (Go.undef) := ⟨#[], rfl, rfl⟩

/-- The parts of a value. -/
theorem VRel.cells {ρ : Map} : ∀ {a : AV} {v : Value}, VRel ρ a v → VRels ρ a.cells v.cells.toList := by
  intro a v h
  cases a
  case agg cs => obtain ⟨ds, rfl, h⟩ := h; exact h
  case bool b => cases h; exact ⟨_, [], rfl, rfl, rfl⟩
  case int k n => cases h; exact ⟨_, [], rfl, rfl, rfl⟩
  case str s => cases h; exact ⟨_, [], rfl, rfl, rfl⟩
  case nilFunc => cases h; exact ⟨_, [], rfl, rfl, rfl⟩
  case nilIface => cases h; exact ⟨_, [], rfl, rfl, rfl⟩
  case ptr o => cases o with
    | none => cases h; exact ⟨_, [], rfl, rfl, rfl⟩
    | some o => obtain ⟨p, hp, rfl⟩ := h; exact ⟨_, [], rfl, ⟨p, hp, rfl⟩, rfl⟩
  case slice o n c sl => cases o with
    | none => obtain ⟨h1, h2, rfl⟩ := h; exact ⟨_, [], rfl, ⟨h1, h2, rfl⟩, rfl⟩
    | some o => obtain ⟨p, x, c', hp, rfl, r⟩ := h; exact ⟨_, [], rfl, ⟨p, x, c', hp, rfl, r⟩, rfl⟩
  case map o => cases o with
    | none => cases h; exact ⟨_, [], rfl, rfl, rfl⟩
    | some o => obtain ⟨p, hp, h0, rfl⟩ := h; exact ⟨_, [], rfl, ⟨p, hp, h0, rfl⟩, rfl⟩
  case func f xs ys => obtain ⟨us, vs, rfl, r⟩ := h; exact ⟨_, [], rfl, ⟨us, vs, rfl, r⟩, rfl⟩
  case iface t x => obtain ⟨y, rfl, r⟩ := h; exact ⟨_, [], rfl, ⟨y, rfl, r⟩, rfl⟩
  case tuple vs => obtain ⟨ds, rfl, r⟩ := h; exact ⟨_, [], rfl, ⟨ds, rfl, r⟩, rfl⟩

/-- A value of one cell is one in the world. -/
theorem VRel.one {ρ : Map} {a : AV} {v : Value} (h : VRel ρ a v) (ho : a.one = true) : (∀ cs, v ≠ .agg cs) ∧ (∀ cs, v ≠ .tuple cs) := by
  cases a
  case agg => simp [AV.one] at ho
  case tuple => simp [AV.one] at ho
  case bool => cases h; simp
  case int => cases h; simp
  case str => cases h; simp
  case nilFunc => cases h; simp
  case nilIface => cases h; simp
  case ptr o => cases o with
    | none => cases h; simp
    | some o => obtain ⟨p, hp, rfl⟩ := h; simp
  case slice o n c sl => cases o with
    | none => obtain ⟨_, _, rfl⟩ := h; simp
    | some o => obtain ⟨p, x, c', hp, rfl, r⟩ := h; simp
  case map o => cases o with
    | none => cases h; simp
    | some o => obtain ⟨p, hp, h0, rfl⟩ := h; simp
  case func f xs ys => obtain ⟨us, vs, rfl, r⟩ := h; simp
  case iface t x => obtain ⟨y, rfl, r⟩ := h; simp

/-! ## constants -/
theorem ofBasic_rel {v : Value} {a : AV} (h : ofBasic v = some a) (ρ : Map) : VRel ρ a v := by
  unfold ofBasic at h
  split at h <;> (first | (injection h with h; subst h; first | rfl | exact ⟨rfl, rfl, rfl⟩) | (exact absurd h (by simp)))

theorem mapOpt_some {α β : Type} {f : α → Option β} : ∀ {l : List α} {m : List β}, mapOpt f l = some m → m.length = l.length ∧ ∀ (i : Nat) (x : α), l[i]? = some x → ∃ y, f x = some y ∧ m[i]? = some y
  | [], m, h => by simp [mapOpt] at h; subst h; simp
  | x :: xs, m, h => by
    simp only [mapOpt] at h
    cases hx : f x with
    | none => simp [hx] at h
    | some y =>
      cases hs : mapOpt f xs with
      | none => simp [hx, hs] at h
      | some ys =>
        simp [hx, hs] at h
        subst h
        obtain ⟨hl, hg⟩ := mapOpt_some hs
        refine ⟨by simp [hl], fun i z hz => ?_⟩
        cases i with
        | zero => simp at hz; subst hz; exact ⟨y, hx, by simp⟩
        | succ i => simpa using hg i z (by simpa using hz)

theorem mapOpt_rel {ρ : Map} {α : Type} {f : α → Option AV} {g : α → Value} (h : ∀ x a, f x = some a → VRel ρ a (g x)) : ∀ {l : List α} {m : List AV}, mapOpt f l = some m → VRels ρ m (l.map g)
  | [], m, e => by simp [mapOpt] at e; subst e; rfl
  | x :: xs, m, e => by
    simp only [mapOpt] at e
    cases hx : f x with
    | none => simp [hx] at e
    | some y =>
      cases hs : mapOpt f xs with
      | none => simp [hx, hs] at e
      | some ys =>
        simp [hx, hs] at e
        subst e
        exact ⟨g x, _, rfl, h x y hx, mapOpt_rel h hs⟩

theorem ofConst_rel {v : Value} {a : AV} (h : ofConst v = some a) (ρ : Map) : VRel ρ a v := by
  unfold ofConst at h
  split at h
  · rename_i cs
    cases hm : mapOpt ofBasic cs.toList with
    | none => simp [hm] at h
    | some l =>
      simp [hm] at h
      subst h
      refine ⟨cs, rfl, ?_⟩
      have := mapOpt_rel (ρ := ρ) (g := id) (fun x a hx => ofBasic_rel hx ρ) hm
      simpa using this
  · exact ofBasic_rel h ρ

/-! ## memory -/
def AObj.own : AObj → Bool
  | .cells _ _ own _ => own
  | .map _ => true
  | .iter _ _ => true
  | .dead => false

def AObj.live : AObj → Bool
  | .dead => false
  | _ => true

def KRels (ρ : Map) : List (AV × AV) → List MapEntry → Prop
  | [], l => l = []
  | (k, v) :: r, l => ∃ e es, l = e :: es ∧ VRel ρ k e.key ∧ VRel ρ v e.val ∧ KRels ρ r es

theorem KRels.mono {ρ ρ' : Map} (e : Ext ρ ρ') : ∀ (l : List (AV × AV)) (m : List MapEntry), KRels ρ l m → KRels ρ' l m
  | [], _, h => h
  | (_, _) :: r, _, ⟨x, xs, h, a, b, c⟩ => ⟨x, xs, h, VRel.mono e _ _ a, VRel.mono e _ _ b, KRels.mono e r _ c⟩

/-- A map's entries bear stamps that lie below the clock, no two the same. -/
def Marked (ms : List MapEntry) (clock : Nat) : Prop := (∀ e ∈ ms, e.born < clock) ∧ (ms.map (·.born)).Nodup

theorem Marked.nil (clock : Nat) : Marked [] clock := ⟨by simp, by simp⟩
theorem Marked.push {ms : List MapEntry} {clock : Nat} {k v : Value} (h : Marked ms clock) : Marked (ms ++ [{ key := k, val := v, born := clock }]) (clock + 1) := by
  refine ⟨fun e he => ?_, ?_⟩
  · rcases List.mem_append.1 he with h1 | h1
    · have := h.1 e h1; omega
    · simp at h1; subst h1; simp
  · rw [List.map_append, List.nodup_append]
    refine ⟨h.2, by simp, fun a ha b hb => ?_⟩
    obtain ⟨e, he, rfl⟩ := List.mem_map.1 ha
    simp at hb
    subst hb
    have := h.1 e he
    omega
theorem Marked.modify {ms : List MapEntry} {clock i : Nat} {f : MapEntry → MapEntry} (h : Marked ms clock) (hf : ∀ e, (f e).born = e.born) : Marked (ms.modify i f) clock := by
  have hm : (ms.modify i f).map (·.born) = ms.map (·.born) := by
    apply List.ext_getElem?
    intro j
    simp only [List.getElem?_map, List.getElem?_modify]
    split <;> cases ms[j]? <;> simp [hf]
  refine ⟨fun e he => ?_, by rw [hm]; exact h.2⟩
  have : e.born ∈ (ms.modify i f).map (·.born) := List.mem_map_of_mem he
  rw [hm] at this
  obtain ⟨x, hx, hxe⟩ := List.mem_map.1 this
  rw [← hxe]
  exact h.1 x hx
theorem Marked.erase {ms : List MapEntry} {clock i : Nat} (h : Marked ms clock) : Marked (ms.eraseIdx i) clock := by
  refine ⟨fun e he => h.1 e (List.mem_of_mem_eraseIdx he), ?_⟩
  exact List.Nodup.sublist ((List.eraseIdx_sublist ms i).map _) h.2

/-- The cells from a place on bear these values. -/
def CRel (ρ : Map) (c : List AV) (C : Array Value) (off : Nat) : Prop :=
  ∀ i a, c[i]? = some a → ∃ v, C[off + i]? = some v ∧ VRel ρ a v

def ORel (ρ : Map) (w : World) (b : Nat) : AObj → Prop
  | .cells c _ own mk => ∃ p C e fr, ρ b = some p ∧ w.heap[p.blk]? = some (.cells C e fr) ∧ CRel ρ c C p.off ∧ p.off + c.length ≤ C.size ∧ c.length ≤ p.tot ∧
      (own = true → p.off + p.tot ≤ C.size ∧ (fr = (0, 0) ∨ (mk = true ∧ fr = (C.size, C.size + 1))))
  | .map es => ∃ p m clock, ρ b = some p ∧ p.off = 0 ∧ p.tot = 1 ∧ w.heap[p.blk]? = some (.map m clock) ∧ KRels ρ es m.toList ∧ Marked m.toList clock
  | .iter s pos => ∃ p, ρ b = some p ∧ p.off = 0 ∧ p.tot = 1 ∧ w.heap[p.blk]? = some (.stringIter ⟨s.toArray⟩ pos)
  | .dead => True

structure Sim (G : Nat) (ρ : Map) (H : Heap) (w : World) : Prop where
  obj : ∀ b o, H.get b = some o → ORel ρ w b o
  apart : ∀ b b' o o' p p', H.get b = some o → H.get b' = some o' → b ≠ b' → o.live = true → o'.own = true → ρ b = some p → ρ b' = some p' → p.blk ≠ p'.blk
  glob : ∀ g, g < G → ∃ p, ρ g = some p ∧ p.blk = g ∧ p.off = 0

/-- The world's block is the run's own. -/
def OwnsBlk (ρ : Map) (H : Heap) (B : Nat) : Prop := ∃ b o p, H.get b = some o ∧ o.own = true ∧ ρ b = some p ∧ p.blk = B

structure Keeps (ρ : Map) (H : Heap) (w : World) (ρ' : Map) (H' : Heap) (w' : World) : Prop where
  size : w.heap.size ≤ w'.heap.size
  kept : ∀ (B : Nat) (o : Obj), w.heap[B]? = some o → ¬ OwnsBlk ρ H B → w'.heap[B]? = some o
  owns : ∀ B, OwnsBlk ρ' H' B → w.heap.size ≤ B ∨ OwnsBlk ρ H B
  tape : w'.tape = w.tape
  os : w'.os = w.os
  output : w'.output = w.output

/-- A step of the abstract machine, and a step of the world that goes with it. -/
structure Good (G : Nat) (ρ : Map) (H : Heap) (w : World) (ρ' : Map) (H' : Heap) (w' : World) : Prop where
  sim : Sim G ρ' H' w'
  ext : Ext ρ ρ'
  out : ∀ b, (b < H.next ∨ H'.next ≤ b) → ρ' b = ρ b
  next : H.next ≤ H'.next
  dom : ∀ b, H.get b = none → (b < H.next ∨ H'.next ≤ b) → H'.get b = none
  ro : ∀ b o, H'.get b = some o → o.live = true → o.own = false → H.get b = some o
  keeps : Keeps ρ H w ρ' H' w'

theorem Keeps.refl (ρ : Map) (H : Heap) (w : World) : Keeps ρ H w ρ H w where
  size := Nat.le_refl _
  kept := fun _ _ h _ => h
  owns := fun _ h => .inr h
  tape := rfl
  os := rfl
  output := rfl

theorem heap_lt {w : World} {B : Nat} {o : Obj} (h : w.heap[B]? = some o) : B < w.heap.size := by
  obtain ⟨h, _⟩ := Array.getElem?_eq_some_iff.1 h
  exact h

theorem Keeps.trans {ρ ρ1 ρ2 : Map} {H H1 H2 : Heap} {w w1 w2 : World} (h : Keeps ρ H w ρ1 H1 w1) (g : Keeps ρ1 H1 w1 ρ2 H2 w2) : Keeps ρ H w ρ2 H2 w2 where
  size := Nat.le_trans h.size g.size
  kept := by
    intro B o hB ho
    refine g.kept B o (h.kept B o hB ho) fun hx => ?_
    rcases h.owns B hx with hge | hx
    · have := heap_lt hB; omega
    · exact ho hx
  owns := by
    intro B hx
    rcases g.owns B hx with hge | hx
    · left; have := h.size; omega
    · exact h.owns B hx
  tape := g.tape.trans h.tape
  os := g.os.trans h.os
  output := g.output.trans h.output

theorem Good.wf {G : Nat} {ρ ρ' : Map} {H H' : Heap} {w w' : World} (h : Good G ρ H w ρ' H' w') (hw : ∀ b, H.next ≤ b → H.get b = none) : ∀ b, H'.next ≤ b → H'.get b = none := by
  intro b hb
  have := h.next
  exact h.dom b (hw b (by omega)) (.inr hb)

theorem Good.refl {G : Nat} {ρ : Map} {H : Heap} {w : World} (h : Sim G ρ H w) : Good G ρ H w ρ H w where
  sim := h
  ext := Ext.refl ρ
  out := fun _ _ => rfl
  next := Nat.le_refl _
  dom := fun _ h _ => h
  ro := fun _ _ h _ _ => h
  keeps := Keeps.refl ρ H w

theorem Good.trans {G : Nat} {ρ ρ1 ρ2 : Map} {H H1 H2 : Heap} {w w1 w2 : World} (h : Good G ρ H w ρ1 H1 w1) (g : Good G ρ1 H1 w1 ρ2 H2 w2) : Good G ρ H w ρ2 H2 w2 where
  sim := g.sim
  ext := h.ext.trans g.ext
  out := by
    intro b hb
    have h1 := h.next
    have h2 := g.next
    rw [g.out b (by omega), h.out b (by omega)]
  next := Nat.le_trans h.next g.next
  dom := by
    intro b hb ho
    have h1 := h.next
    have h2 := g.next
    exact g.dom b (h.dom b hb (by omega)) (by omega)
  ro := fun b o ho hl hw => h.ro b o (g.ro b o ho hl hw) hl hw
  keeps := h.keeps.trans g.keeps

end Go.Abs

/- The steps of memory: a cell written, a block made, a block grown, a map changed: each keeps the bond between the two memories. -/
namespace Go.Abs
set_option linter.unusedVariables false

def upd (ρ : Map) (b : Nat) (p : Place) : Map := fun x => if x = b then some p else ρ x

theorem upd_same (ρ : Map) (b : Nat) (p : Place) : upd ρ b p b = some p := by simp [upd]
theorem upd_ne (ρ : Map) {b x : Nat} (p : Place) (h : x ≠ b) : upd ρ b p x = ρ x := by simp [upd, h]
theorem Ext.upd {ρ : Map} {b : Nat} (p : Place) (h : ρ b = none) : Ext ρ (upd ρ b p) := by
  intro x q hx
  by_cases e : x = b
  · subst e; rw [h] at hx; exact absurd hx (by simp)
  · rw [upd_ne ρ p e]; exact hx

theorem CRel.mono {ρ ρ' : Map} (e : Ext ρ ρ') {c : List AV} {C : Array Value} {off : Nat} (h : CRel ρ c C off) : CRel ρ' c C off := by
  intro i a ha
  obtain ⟨v, hv, r⟩ := h i a ha
  exact ⟨v, hv, VRel.mono e _ _ r⟩

/-- More memory, and more places: what was borne is borne. -/
theorem ORel.grow {ρ ρ' : Map} {w w' : World} (e : Ext ρ ρ') (h : ∀ (B : Nat) (o : Obj), w.heap[B]? = some o → w'.heap[B]? = some o) {b : Nat} : ∀ {o : AObj}, ORel ρ w b o → ORel ρ' w' b o := by
  intro o
  cases o with
  | cells c el own mk =>
    rintro ⟨p, C, e', fr, hp, hh, hc, hl, ht, ho⟩
    exact ⟨p, C, e', fr, e _ _ hp, h _ _ hh, hc.mono e, hl, ht, ho⟩
  | map es =>
    rintro ⟨p, m, k, hp, h0, h1, hh, hk, hmk⟩
    exact ⟨p, m, k, e _ _ hp, h0, h1, h _ _ hh, KRels.mono e _ _ hk, hmk⟩
  | iter s pos =>
    rintro ⟨p, hp, h0, h1, hh⟩
    exact ⟨p, e _ _ hp, h0, h1, h _ _ hh⟩
  | dead => exact fun _ => trivial

/-- A live block's place is a block of the world. -/
theorem Sim.place {G : Nat} {ρ : Map} {H : Heap} {w : World} (hs : Sim G ρ H w) {b : Nat} {o : AObj} (h : H.get b = some o) (hl : o.live = true) : ∃ p O, ρ b = some p ∧ w.heap[p.blk]? = some O := by
  have := hs.obj b o h
  cases o with
  | cells c el own mk => obtain ⟨p, C, e', fr, hp, hh, _⟩ := this; exact ⟨p, _, hp, hh⟩
  | map es => obtain ⟨p, m, k, hp, _, _, hh, _⟩ := this; exact ⟨p, _, hp, hh⟩
  | iter s pos => obtain ⟨p, hp, _, _, hh⟩ := this; exact ⟨p, _, hp, hh⟩
  | dead => simp [AObj.live] at hl

/-- Only the blocks' contents count, and how many there are. -/
theorem Sim.congr {G : Nat} {ρ : Map} {H H' : Heap} {w w' : World} (hs : Sim G ρ H w) (hg : ∀ b, H'.get b = H.get b) (hw : w'.heap = w.heap) : Sim G ρ H' w' where
  obj := by
    intro b o h
    rw [hg] at h
    exact (hs.obj b o h).grow (Ext.refl ρ) (by intro B o h; rw [hw]; exact h)
  apart := by
    intro b b' o o' p p' h h'
    rw [hg] at h h'
    exact hs.apart b b' o o' p p' h h'
  glob := hs.glob

theorem OwnsBlk.congr {ρ : Map} {H H2 : Heap} {B : Nat} (hg : ∀ b, H2.get b = H.get b) (h : OwnsBlk ρ H2 B) : OwnsBlk ρ H B := by
  obtain ⟨b, o, p, hb, r⟩ := h
  exact ⟨b, o, p, by rw [← hg]; exact hb, r⟩

theorem Keeps.congr {ρ ρ' : Map} {H H' H2 : Heap} {w w' : World} (hk : Keeps ρ H w ρ' H' w') (hg : ∀ b, H2.get b = H'.get b) : Keeps ρ H w ρ' H2 w' where
  size := hk.size
  kept := hk.kept
  owns := fun B h => hk.owns B (h.congr hg)
  tape := hk.tape
  os := hk.os
  output := hk.output

theorem Good.congr {G : Nat} {ρ ρ' : Map} {H H' H2 : Heap} {w w' : World} (h : Good G ρ H w ρ' H' w') (hg : ∀ b, H2.get b = H'.get b) (hn : H2.next = H'.next) : Good G ρ H w ρ' H2 w' where
  sim := h.sim.congr hg rfl
  ext := h.ext
  out := by intro b hb; rw [hn] at hb; exact h.out b hb
  next := by rw [hn]; exact h.next
  dom := by intro b hb ho; rw [hn] at ho; rw [hg]; exact h.dom b hb ho
  ro := by intro b o ho; rw [hg] at ho; exact h.ro b o ho
  keeps := h.keeps.congr hg

/-- The same, at the beginning. -/
theorem Good.congr_left {G : Nat} {ρ ρ' : Map} {H H0 H' : Heap} {w w' : World} (h : Good G ρ H w ρ' H' w') (hg : ∀ b, H0.get b = H.get b) (hn : H0.next = H.next) : Good G ρ H0 w ρ' H' w' where
  sim := h.sim
  ext := h.ext
  out := by intro b hb; rw [hn] at hb; exact h.out b hb
  next := by rw [hn]; exact h.next
  dom := by intro b hb ho; rw [hg] at hb; rw [hn] at ho; exact h.dom b hb ho
  ro := by intro b o ho hl hw; rw [hg]; exact h.ro b o ho hl hw
  keeps := {
    size := h.keeps.size
    kept := by
      intro B o hB ho
      refine h.keeps.kept B o hB ?_
      rintro ⟨b, o, p, hb, r⟩; exact ho ⟨b, o, p, by rw [hg]; exact hb, r⟩
    owns := by
      intro B hx
      rcases h.keeps.owns B hx with x | ⟨b, o, p, hb, r⟩
      · exact .inl x
      · exact .inr ⟨b, o, p, by rw [hg]; exact hb, r⟩
    tape := h.keeps.tape
    os := h.keeps.os
    output := h.keeps.output }

/-- A world with the same memory. -/
theorem Good.same {G : Nat} {ρ : Map} {H : Heap} {w w' : World} (hs : Sim G ρ H w) (hw : w'.heap = w.heap) (ht : w'.tape = w.tape) (ho : w'.os = w.os) (hp : w'.output = w.output) : Good G ρ H w ρ H w' where
  sim := hs.congr (fun _ => rfl) hw
  ext := Ext.refl ρ
  out := fun _ _ => rfl
  next := Nat.le_refl _
  dom := fun _ h _ => h
  ro := fun _ _ h _ _ => h
  keeps := {
    size := by rw [hw]; exact Nat.le_refl _
    kept := fun B o h _ => by rw [hw]; exact h
    owns := fun B h => .inr h
    tape := ht
    os := ho
    output := hp }

/-! ## one block changed in place -/
/-- The world's block B turned; all others as they were. -/
structure Turned (w w' : World) (B : Nat) (O : Obj) : Prop where
  at_ : w'.heap[B]? = some O
  rest : ∀ x, x ≠ B → w'.heap[x]? = w.heap[x]?
  size : w'.heap.size = w.heap.size
  tape : w'.tape = w.tape
  os : w'.os = w.os
  output : w'.output = w.output

theorem turned_setCell {w : World} {B j : Nat} {C : Array Value} {e : TypeId} {fr : Nat × Nat} (h : w.heap[B]? = some (.cells C e fr)) (v : Value) :
    Turned w (w.setCell ⟨B, j, none⟩ v) B (.cells (C.setIfInBounds j v) e fr) where
  at_ := by simp [World.setCell, Array.getElem?_modify, h]
  rest := by intro x hx; simp only [World.setCell, Array.getElem?_modify]; rw [if_neg (by exact fun e => hx e.symm)]
  size := by simp [World.setCell]
  tape := rfl
  os := rfl
  output := rfl

/-- A change of one abstract block and of the block of the world where it lies. -/
theorem Good.turned {G : Nat} {ρ : Map} {H : Heap} {w w' : World} {b : Nat} {o o' : AObj} {p : Place} {O : Obj}
    (hs : Sim G ρ H w) (hg : H.get b = some o) (hown : o.own = true) (hlive : o.live = true) (hp : ρ b = some p) (ht : Turned w w' p.blk O)
    (hown' : o'.own = true) (ho' : ORel ρ w' b o') : Good G ρ H w ρ (H.set b o') w' := by
  have hset : ∀ x y, (H.set b o').get x = some y → ∃ y0, H.get x = some y0 ∧ (y.live = true → y0.live = true) ∧ (y.own = true → y0.own = true) := by
    intro x y h
    rw [Heap.get_set] at h
    split at h
    · rename_i e; subst e; exact ⟨_, hg, fun _ => hlive, fun _ => hown⟩
    · exact ⟨y, h, id, id⟩
  have hsim : Sim G ρ (H.set b o') w' := by
    refine ⟨?_, ?_, hs.glob⟩
    · intro x y h
      rw [Heap.get_set] at h
      split at h
      · rename_i e; subst e; injection h with h; subst h; exact ho'
      · rename_i hne
        have hx := hs.obj x y h
        cases y with
        | dead => trivial
        | map es =>
          obtain ⟨q, ms, k, hq, h0, h1, hh', hk⟩ := hx
          exact ⟨q, ms, k, hq, h0, h1, by rw [ht.rest _ (hs.apart x b _ _ q p h hg hne rfl hown hq hp)]; exact hh', hk⟩
        | iter s pos =>
          obtain ⟨q, hq, h0, h1, hh'⟩ := hx
          exact ⟨q, hq, h0, h1, by rw [ht.rest _ (hs.apart x b _ _ q p h hg hne rfl hown hq hp)]; exact hh'⟩
        | cells d ed own md =>
          obtain ⟨q, D, ed', fd, hq, hh', r⟩ := hx
          exact ⟨q, D, ed', fd, hq, by rw [ht.rest _ (hs.apart x b _ _ q p h hg hne rfl hown hq hp)]; exact hh', r⟩
    · intro x x' y y' q q' h h' hne hl ho hq hq'
      obtain ⟨y1, g1, l1, _⟩ := hset x y h
      obtain ⟨y2, g2, _, w2⟩ := hset x' y' h'
      exact hs.apart x x' y1 y2 q q' g1 g2 hne (l1 hl) (w2 ho) hq hq'
  refine ⟨hsim, Ext.refl ρ, fun _ _ => rfl, Nat.le_refl _, ?_, ?_, ?_⟩
  · intro x hx _
    rw [Heap.get_set]
    split
    · rename_i e; subst e; rw [hg] at hx; exact absurd hx (by simp)
    · exact hx
  · intro x y h hl hw
    rw [Heap.get_set] at h
    split at h
    · injection h with h; subst h; rw [hown'] at hw; cases hw
    · exact h
  · refine ⟨by rw [ht.size]; exact Nat.le_refl _, ?_, ?_, ht.tape, ht.os, ht.output⟩
    · intro B y hB ho
      rw [ht.rest B ?_]; exact hB
      rintro rfl
      exact ho ⟨b, o, p, hg, hown, hp, rfl⟩
    · rintro B ⟨x, y, q, hx, hy, hq, rfl⟩
      obtain ⟨y1, g1, _, w1⟩ := hset x y hx
      exact .inr ⟨x, y1, q, g1, w1 hy, hq, rfl⟩

/-- A cell of an own block written. -/
theorem Good.write1 {G : Nat} {ρ : Map} {H : Heap} {w : World} {b o : Nat} {c : List AV} {e : TypeId} {m : Bool} {p : Place} {a : AV} {v : Value}
    (hs : Sim G ρ H w) (hg : H.get b = some (.cells c e true m)) (ho : o < c.length) (hp : ρ b = some p) (hv : VRel ρ a v) :
    Good G ρ H w ρ (H.set b (.cells (c.set o a) e true m)) (w.setCell ⟨p.blk, p.off + o, none⟩ v) ∧
    (∃ u, w.cell? ⟨p.blk, p.off + o, none⟩ = some u) ∧ w.frozen? ⟨p.blk, p.off + o, none⟩ = false := by
  obtain ⟨p1, C, el, fr, hp1, hh, hc, hl1, hl2, hown⟩ := hs.obj b _ hg
  rw [hp] at hp1; injection hp1 with hp1; subst hp1
  obtain ⟨hfit, hfr⟩ := hown rfl
  refine ⟨Good.turned hs hg rfl rfl hp (turned_setCell hh v) rfl ?_, ?_, ?_⟩
  · refine ⟨p, C.setIfInBounds (p.off + o) v, el, fr, hp, (turned_setCell hh v).at_, ?_, by simpa using hl1, by simpa using hl2, fun _ => ⟨by simpa using hfit, by simpa using hfr⟩⟩
    intro i x hx
    by_cases e' : i = o
    · subst e'
      rw [List.getElem?_set_self (by omega)] at hx
      injection hx with hx; subst hx
      exact ⟨v, by rw [Array.getElem?_setIfInBounds]; simp; omega, hv⟩
    · rw [List.getElem?_set_ne (fun h => e' h.symm)] at hx
      obtain ⟨u, hu, r⟩ := hc i x hx
      exact ⟨u, by rw [Array.getElem?_setIfInBounds]; rw [if_neg (by omega)]; exact hu, r⟩
  · obtain ⟨u, hu, _⟩ := hc o c[o] (by simp [ho])
    exact ⟨u, by simp [World.cell?, hh, hu]⟩
  · simp only [World.frozen?, hh]
    rcases hfr with rfl | ⟨_, rfl⟩
    · simp
    · simp; omega

/-- A map changed. -/
theorem Good.mapped {G : Nat} {ρ : Map} {H : Heap} {w : World} {r : Nat} {es es' : List (AV × AV)} {p : Place} {ms ms' : Array MapEntry} {k k' : Nat}
    (hs : Sim G ρ H w) (hg : H.get r = some (.map es)) (hp : ρ r = some p) (hh : w.heap[p.blk]? = some (.map ms k)) (hk : KRels ρ es' ms'.toList) (hmk : Marked ms'.toList k') :
    Good G ρ H w ρ (H.set r (.map es')) { w with heap := w.heap.setIfInBounds p.blk (.map ms' k') } := by
  obtain ⟨p1, m1, k1, hp1, h0, h1, hh1, _⟩ := hs.obj r _ hg
  rw [hp] at hp1; injection hp1 with hp1; subst hp1
  have hlt := heap_lt hh
  have ht : Turned w { w with heap := w.heap.setIfInBounds p.blk (.map ms' k') } p.blk (.map ms' k') :=
    ⟨by simp [hlt], fun x hx => by simp only [Array.getElem?_setIfInBounds]; rw [if_neg (fun e => hx e.symm)], by simp, rfl, rfl, rfl⟩
  exact Good.turned hs hg rfl rfl hp ht rfl ⟨p, ms', k', hp, h0, h1, ht.at_, hk, hmk⟩

/-- An iterator moved on. -/
theorem Good.itered {G : Nat} {ρ : Map} {H : Heap} {w : World} {r : Nat} {s : List UInt8} {pos pos' : Nat} {p : Place}
    (hs : Sim G ρ H w) (hg : H.get r = some (.iter s pos)) (hp : ρ r = some p) :
    Good G ρ H w ρ (H.set r (.iter s pos')) { w with heap := w.heap.setIfInBounds p.blk (.stringIter ⟨s.toArray⟩ pos') } := by
  obtain ⟨p1, hp1, h0, h1, hh1⟩ := hs.obj r _ hg
  rw [hp] at hp1; injection hp1 with hp1; subst hp1
  have hlt := heap_lt hh1
  have ht : Turned w { w with heap := w.heap.setIfInBounds p.blk (.stringIter ⟨s.toArray⟩ pos') } p.blk (.stringIter ⟨s.toArray⟩ pos') :=
    ⟨by simp [hlt], fun x hx => by simp only [Array.getElem?_setIfInBounds]; rw [if_neg (fun e => hx e.symm)], by simp, rfl, rfl, rfl⟩
  exact Good.turned hs hg rfl rfl hp ht rfl ⟨p, hp, h0, h1, ht.at_⟩

/-- A block's bytes marked as a string's. -/
theorem Good.marked {G : Nat} {ρ : Map} {H : Heap} {w : World} {b : Nat} {c : List AV} {e : TypeId} {m : Bool} {p : Place} {C : Array Value} {el : TypeId} {fr : Nat × Nat}
    (hs : Sim G ρ H w) (hg : H.get b = some (.cells c e true m)) (hp : ρ b = some p) (hh : w.heap[p.blk]? = some (.cells C el fr)) :
    Good G ρ H w ρ (H.set b (.cells c e true true)) (w.freeze { block := p.blk, off := C.size } 1) := by
  obtain ⟨p1, C1, e1, fr1, hp1, hh1, hc1, hl1, hl2, hown⟩ := hs.obj b _ hg
  rw [hp] at hp1; injection hp1 with hp1; subst hp1
  rw [hh] at hh1; injection hh1 with hh1; injection hh1 with e1 e2 e3; subst e1; subst e2; subst e3
  obtain ⟨hfit, hfr⟩ := hown rfl
  have hfr' : (match fr with | (lo, hi) => (if lo == hi then (C.size, C.size + 1) else (min lo C.size, max hi (C.size + 1)))) = (C.size, C.size + 1) := by
    rcases hfr with rfl | ⟨_, rfl⟩
    · simp
    · simp
  have ht : Turned w (w.freeze { block := p.blk, off := C.size } 1) p.blk (.cells C el (C.size, C.size + 1)) := by
    refine ⟨?_, ?_, by simp [World.freeze], rfl, rfl, rfl⟩
    · simp only [World.freeze]
      rw [if_neg (by decide)]
      simp only [Array.getElem?_modify, hh, if_true, Option.map_some]
      exact congrArg (fun f => some (Obj.cells C el f)) hfr'
    · intro x hx
      simp only [World.freeze]
      rw [if_neg (by decide)]
      simp only [Array.getElem?_modify]
      rw [if_neg (fun e => hx e.symm)]
  exact Good.turned hs hg rfl rfl hp ht rfl ⟨p, C, el, _, hp, ht.at_, hc1, hl1, hl2, fun _ => ⟨hfit, .inr ⟨rfl, rfl⟩⟩⟩

/-! ## a new block -/
theorem push_get {w : World} (o : Obj) {B : Nat} {x : Obj} (h : w.heap[B]? = some x) : (World.alloc w o).heap[B]? = some x := by
  have hlt := heap_lt h
  show (w.heap.push o)[B]? = _
  rw [Array.getElem?_push, if_neg (by omega)]
  exact h

theorem push_at {w : World} (o : Obj) : (World.alloc w o).heap[w.heap.size]? = some o := by
  show (w.heap.push o)[w.heap.size]? = _
  simp

theorem Good.push {G : Nat} {ρ : Map} {H : Heap} {w : World} {o : AObj} {O : Obj} {tot : Nat} (hs : Sim G ρ H w) (hn : ρ H.next = none)
    (ho : ORel (upd ρ H.next ⟨w.heap.size, 0, tot⟩) (World.alloc w O) H.next o) (hown : o.own = true) :
    Good G ρ H w (upd ρ H.next ⟨w.heap.size, 0, tot⟩) (H.push o) (World.alloc w O) := by
  have hext : Ext ρ (upd ρ H.next ⟨w.heap.size, 0, tot⟩) := Ext.upd _ hn
  have hold : ∀ b x p, H.get b = some x → x.live = true → b ≠ H.next → upd ρ H.next ⟨w.heap.size, 0, tot⟩ b = some p → p.blk < w.heap.size := by
    intro b x p hb hl hne hp
    rw [upd_ne _ _ hne] at hp
    obtain ⟨q, Q, hq, hh⟩ := hs.place hb hl
    rw [hq] at hp; injection hp with hp; subst hp
    exact heap_lt hh
  have hol : ∀ x : AObj, x.own = true → x.live = true := by intro x h; cases x <;> simp_all [AObj.own, AObj.live]
  refine ⟨⟨?_, ?_, ?_⟩, hext, ?_, by simp, ?_, ?_, ?_⟩
  · intro b x h
    rw [Heap.get_push] at h
    split at h
    · rename_i e; subst e; injection h with h; subst h; exact ho
    · exact (hs.obj b x h).grow hext fun B y hy => push_get O hy
  · intro b b' x x' p p' h h' hne hl hw hp hp'
    rw [Heap.get_push] at h h'
    by_cases e : b = H.next
    · have e' : b' ≠ H.next := fun h => hne (e.trans h.symm)
      rw [if_neg e'] at h'
      have := hold b' x' p' h' (hol _ hw) e' hp'
      rw [e, upd_same] at hp; injection hp with hp; subst hp
      simp; omega
    · rw [if_neg e] at h
      by_cases e' : b' = H.next
      · have := hold b x p h hl e hp
        rw [e', upd_same] at hp'; injection hp' with hp'; subst hp'
        simp; omega
      · rw [if_neg e'] at h'
        rw [upd_ne _ _ e] at hp
        rw [upd_ne _ _ e'] at hp'
        exact hs.apart b b' x x' p p' h h' hne hl hw hp hp'
  · intro g hg
    obtain ⟨p, hp, r⟩ := hs.glob g hg
    exact ⟨p, hext _ _ hp, r⟩
  · intro b hb
    exact upd_ne _ _ (by simp at hb; omega)
  · intro b hb hr
    rw [Heap.get_push, if_neg (by simp at hr; omega)]
    exact hb
  · intro x y h hl hw
    rw [Heap.get_push] at h
    split at h
    · injection h with h; subst h; rw [hown] at hw; cases hw
    · exact h
  · refine ⟨by show w.heap.size ≤ (w.heap.push O).size; simp, fun B x h _ => push_get O h, ?_, rfl, rfl, rfl⟩
    rintro B ⟨b, x, p, hb, hx, hp, rfl⟩
    rw [Heap.get_push] at hb
    by_cases e : b = H.next
    · rw [e, upd_same] at hp; injection hp with hp; subst hp
      exact .inl (Nat.le_refl _)
    · rw [if_neg e] at hb
      rw [upd_ne _ _ e] at hp
      exact .inr ⟨b, x, p, hb, hx, hp, rfl⟩

/-! ## the block that grew where it lay: its content is told under a new number -/
theorem Good.retarget {G : Nat} {ρ : Map} {H : Heap} {w : World} {b o n : Nat} {c : List AV} {e e2 : TypeId} {p : Place}
    (hs : Sim G ρ H w) (hn : ρ H.next = none) (hg : H.get b = some (.cells c e true false)) (hp : ρ b = some p) (hfit : o + n ≤ c.length) :
    Good G ρ H w (upd ρ H.next ⟨p.blk, p.off + o, p.tot - o⟩) ((H.set b .dead).push (.cells ((c.drop o).take n) e2 true false)) w := by
  have hext : Ext ρ (upd ρ H.next ⟨p.blk, p.off + o, p.tot - o⟩) := Ext.upd _ hn
  obtain ⟨p1, C, el, fr, hp1, hh, hc, hl1, hl2, hown⟩ := hs.obj b _ hg
  rw [hp] at hp1; injection hp1 with hp1; subst hp1
  obtain ⟨hf, hfr⟩ := hown rfl
  have hbn : b ≠ H.next := by rintro rfl; rw [hn] at hp; exact absurd hp (by simp)
  have hget : ∀ x y, ((H.set b .dead).push (.cells ((c.drop o).take n) e2 true false)).get x = some y → (x = H.next ∧ y = .cells ((c.drop o).take n) e2 true false) ∨ (x ≠ H.next ∧ x = b ∧ y = .dead) ∨ (x ≠ H.next ∧ x ≠ b ∧ H.get x = some y) := by
    intro x y h
    rw [Heap.get_push, Heap.next_set, Heap.get_set] at h
    split at h
    · rename_i e; injection h with h; exact .inl ⟨e, h.symm⟩
    · rename_i e
      split at h
      · rename_i e'; injection h with h; exact .inr (.inl ⟨e, e', h.symm⟩)
      · rename_i e'; exact .inr (.inr ⟨e, e', h⟩)
  refine ⟨⟨?_, ?_, ?_⟩, hext, ?_, by simp, ?_, ?_, ?_⟩
  · intro x y h
    rcases hget x y h with ⟨rfl, rfl⟩ | ⟨_, _, rfl⟩ | ⟨h1, h2, h3⟩
    · refine ⟨_, C, el, fr, upd_same _ _ _, hh, ?_, ?_, ?_, fun _ => ⟨?_, ?_⟩⟩
      · intro i a ha
        rw [List.getElem?_take] at ha
        split at ha
        · rw [List.getElem?_drop] at ha
          obtain ⟨v, hv, r⟩ := hc _ a ha
          exact ⟨v, by simpa [Nat.add_assoc] using hv, VRel.mono hext _ _ r⟩
        · exact absurd ha (by simp)
      · simp only [List.length_take, List.length_drop]; omega
      · simp only [List.length_take, List.length_drop]; omega
      · simp only []; omega
      · rcases hfr with f | ⟨f, _⟩
        · exact .inl f
        · exact absurd f (by simp)
    · trivial
    · exact (hs.obj x y h3).grow hext fun B z hz => hz
  · intro x x' y y' q q' h h' hne hl hw hq hq'
    rcases hget x y h with ⟨rfl, rfl⟩ | ⟨_, _, rfl⟩ | ⟨h1, h2, h3⟩
    · rcases hget x' y' h' with ⟨rfl, rfl⟩ | ⟨_, _, rfl⟩ | ⟨g1, g2, g3⟩
      · exact absurd rfl hne
      · simp [AObj.own] at hw
      · rw [upd_same] at hq; injection hq with hq; subst hq
        rw [upd_ne _ _ g1] at hq'
        exact hs.apart b x' _ _ p q' hg g3 (fun e => g2 e.symm) rfl hw hp hq'
    · simp [AObj.live] at hl
    · rw [upd_ne _ _ h1] at hq
      rcases hget x' y' h' with ⟨rfl, rfl⟩ | ⟨_, _, rfl⟩ | ⟨g1, g2, g3⟩
      · rw [upd_same] at hq'; injection hq' with hq'; subst hq'
        exact hs.apart x b _ _ q p h3 hg h2 hl rfl hq hp
      · simp [AObj.own] at hw
      · rw [upd_ne _ _ g1] at hq'
        exact hs.apart x x' y y' q q' h3 g3 hne hl hw hq hq'
  · intro g hg
    obtain ⟨q, hq, r⟩ := hs.glob g hg
    exact ⟨q, hext _ _ hq, r⟩
  · intro x hx
    exact upd_ne _ _ (by simp at hx; omega)
  · intro x hx hr
    rw [Heap.get_push, Heap.next_set, if_neg (by simp at hr; omega), Heap.get_set]
    split
    · rename_i e'; subst e'; rw [hg] at hx; exact absurd hx (by simp)
    · exact hx
  · intro x y h hl hw
    rcases hget x y h with ⟨rfl, rfl⟩ | ⟨_, _, rfl⟩ | ⟨h1, h2, h3⟩
    · cases hw
    · cases hl
    · exact h3
  · refine ⟨Nat.le_refl _, fun B x h _ => h, ?_, rfl, rfl, rfl⟩
    rintro B ⟨x, y, q, hx, hy, hq, rfl⟩
    right
    rcases hget x y hx with ⟨rfl, rfl⟩ | ⟨_, _, rfl⟩ | ⟨h1, h2, h3⟩
    · rw [upd_same] at hq; injection hq with hq; subst hq
      exact ⟨b, _, p, hg, rfl, hp, rfl⟩
    · simp [AObj.own] at hy
    · rw [upd_ne _ _ h1] at hq
      exact ⟨x, y, q, h3, hy, hq, rfl⟩

/-- One cell more, out of the slack. -/
theorem Good.extend1 {G : Nat} {ρ : Map} {H : Heap} {w : World} {b : Nat} {c : List AV} {e : TypeId} {m : Bool} {p : Place} {a : AV} {v : Value}
    (hs : Sim G ρ H w) (hg : H.get b = some (.cells c e true m)) (ho : c.length < p.tot) (hp : ρ b = some p) (hv : VRel ρ a v) :
    Good G ρ H w ρ (H.set b (.cells (c ++ [a]) e true m)) (w.setCell ⟨p.blk, p.off + c.length, none⟩ v) ∧
    (∃ u, w.cell? ⟨p.blk, p.off + c.length, none⟩ = some u) ∧ w.frozen? ⟨p.blk, p.off + c.length, none⟩ = false := by
  obtain ⟨p1, C, el, fr, hp1, hh, hc, hl1, hl2, hown⟩ := hs.obj b _ hg
  rw [hp] at hp1; injection hp1 with hp1; subst hp1
  obtain ⟨hfit, hfr⟩ := hown rfl
  refine ⟨Good.turned hs hg rfl rfl hp (turned_setCell hh v) rfl ?_, ?_, ?_⟩
  · refine ⟨p, C.setIfInBounds (p.off + c.length) v, el, fr, hp, (turned_setCell hh v).at_, ?_, by simp; omega, by simp; omega, fun _ => ⟨by simpa using hfit, by simpa using hfr⟩⟩
    intro i x hx
    by_cases e' : i = c.length
    · subst e'
      simp at hx; subst hx
      exact ⟨v, by rw [Array.getElem?_setIfInBounds]; simp; omega, hv⟩
    · have hi : i < c.length := by
        rcases Nat.lt_or_ge i (c ++ [a]).length with h | h
        · simp at h; omega
        · rw [List.getElem?_eq_none h] at hx; exact absurd hx (by simp)
      rw [List.getElem?_append_left hi] at hx
      obtain ⟨u, hu, r⟩ := hc i x hx
      exact ⟨u, by rw [Array.getElem?_setIfInBounds]; rw [if_neg (by omega)]; exact hu, r⟩
  · have hlt : p.off + c.length < C.size := by omega
    exact ⟨C[p.off + c.length], by simp [World.cell?, hh, hlt]⟩
  · simp only [World.frozen?, hh]
    rcases hfr with rfl | ⟨_, rfl⟩
    · simp
    · simp; omega

end Go.Abs

/- The abstract machine's run of a region that draws its order, of a body, of a call. -/
namespace Go.Abs
set_option linter.unusedVariables false

/-! ## a region that draws its order: run in one order, with a look whether another one could tell -/
def isHeavy (P : Program) : Op → Bool
  | .store _ _ _ | .mapUpdate _ _ _ _ | .insert _ _ _ _ | .next _ _ => true
  | .call c => match c.callee with
    | .builtin b => match b with
      | .append | .copy | .clear | .delete => true
      | _ => false
    | _ => true
  | .convert src dst _ => match P.underlying src, P.underlying dst with
    | some (.slice _), some (.slice _) => true
    | _, _ => false
  | _ => false

def bitsOf (l : List Nat) : Nat := l.foldl (fun s i => s ||| 2 ^ i) 0

/-- What must be done ahead of each operation, as bits. -/
def befores (ops : Array Oper) : Array Nat := Region.before ops

def heavies (P : Program) : List Oper → Nat → List Nat
  | [], _ => []
  | o :: os, i => if isHeavy P o.op then i :: heavies P os (i + 1) else heavies P os (i + 1)

/-- The order in which it is run: each heavy operation as soon as it can, the others as late as they can. -/
def canonGo (b : Array Nat) (n : Nat) : List Nat → Nat → List Nat
  | [], done => (List.range n).filter fun i => !done.testBit i
  | h :: hs, done =>
    let ls := (List.range n).filter fun i => (b.getD h 0).testBit i && !done.testBit i
    ls ++ h :: canonGo b n hs ((done ||| bitsOf ls) ||| 2 ^ h)

def preds (o : Oper) : List Nat := (o.after.toList.filter fun e => Region.binds .any e).map (·.on)

/-- The bits are those of the edges, and of what they lead to. -/
def closedOk (ops : Array Oper) (b : Array Nat) : Bool :=
  ops.toList.zipIdx.all fun (o, i) => b.getD i 0 == (preds o).foldl (fun s k => s ||| 2 ^ k ||| b.getD k 0) 0

def edgesOk (ops : Array Oper) : Bool :=
  ops.toList.zipIdx.all fun (o, i) => (preds o).all fun k => k < i

def dstsOf (ops : List Oper) : List Tmp := ops.filterMap (·.dst)

def nodupB : List Nat → Bool
  | [] => true
  | x :: xs => !xs.contains x && nodupB xs

/-- Whoever looks at what an operation of the region writes comes behind it, or ahead of it, in every order. -/
def looksOk (ops : Array Oper) (b : Array Nat) : Bool :=
  ops.toList.zipIdx.all fun (o, i) => ops.toList.zipIdx.all fun (p, j) =>
    i == j || (match p.dst with
      | none => true
      | some d => !(o.looksAt ops).contains d || (b.getD i 0).testBit j || (b.getD j 0).testBit i)

/-- The order keeps the edges; ahead of a heavy operation stands only what must. -/
def canonOk (P : Program) (ops : Array Oper) (b : Array Nat) : List Nat → Nat → Bool
  | [], _ => true
  | i :: is, done =>
    (b.getD i 0 ||| done) == done && (match ops[i]? with
      | some o => !isHeavy P o.op || (done ||| b.getD i 0) == b.getD i 0
      | none => false) && canonOk P ops b is (done ||| 2 ^ i)

def drawOk (P : Program) (ops : Array Oper) (b : Array Nat) (c : List Nat) : Bool :=
  edgesOk ops && closedOk ops b && nodupB (dstsOf ops.toList) && looksOk ops b && nodupB c && c.length == ops.size && canonOk P ops b c 0

def sameIn (H : Heap) (n0 : Nat) (snaps : List Heap) (b : Nat) : Bool :=
  match H.get b with
    | some o => snaps.all fun S => match S.get b with
      | some o' => AObj.beq o' o
      | none => false
    | none => false

structure St where
  T : List AV
  H : Heap
  snaps : List Heap

/-- What an operation that is not heavy comes to: its value, and the block that it makes. -/
def lightRes (P : Program) (call : CallFn) (ops : Array Oper) (b : Array Nat) (hv : List Nat) (n0 : Nat) (i : Nat) (o : Oper) (s : St) : Option (AV × Option AObj) :=
  if wantedA ops s.T o then
    match sem P call s.T o.op with
    | none => none
    | some (.heavy _) => none
    | some (.pure v) => some (v, none)
    | some (.alloc x mk) => some (mk s.H.next, some x)
    | some (.read bs k) =>
      let lo := (hv.filter fun h => (b.getD i 0).testBit h).length
      let m := s.snaps.length - lo
      if bs.all (fun x => decide (x < s.H.next)) && (m ≤ 1 || bs.all (sameIn s.H n0 (s.snaps.take m))) then
        match mapOpt s.H.get bs with
        | some os => match k os with
          | some v => some (v, none)
          | none => none
        | none => none
      else none
  else some (.undef, none)

def pushO (H : Heap) : Option AObj → Heap
  | none => H
  | some o => H.push o

def dstep (P : Program) (call : CallFn) (ops : Array Oper) (b : Array Nat) (hv : List Nat) (n0 : Nat) (i : Nat) (s : St) : Option St :=
  match ops[i]? with
  | none => none
  | some o =>
    if isHeavy P o.op then
      if wantedA ops s.T o then
        match runOp P call s.T o s.H with
        | some (v, H') => some { T := put s.T o.dst v, H := H', snaps := H' :: s.snaps }
        | none => none
      else some { T := put s.T o.dst .undef, H := s.H, snaps := s.H :: s.snaps }
    else
      match lightRes P call ops b hv n0 i o s with
      | some (v, x) => some { T := put s.T o.dst v, H := pushO s.H x, snaps := s.snaps }
      | none => none

def drun (P : Program) (call : CallFn) (ops : Array Oper) (b : Array Nat) (hv : List Nat) (n0 : Nat) : List Nat → St → Option St
  | [], s => some s
  | i :: is, s => match dstep P call ops b hv n0 i s with
    | some s' => drun P call ops b hv n0 is s'
    | none => none

def drawRun (P : Program) (call : CallFn) (ops : Array Oper) (b : Array Nat) (hv c : List Nat) (T : List AV) (H : Heap) : Option (List AV × Heap) :=
  if drawOk P ops b c then
    match drun P call ops b hv H.next c { T := T, H := H, snaps := [H] } with
    | some s => some (s.T, s.H)
    | none => none
  else none

def runRegion (P : Program) (call : CallFn) (ops : Array Oper) (draw : Bool) (T : List AV) (H : Heap) : Option (List AV × Heap) :=
  if draw then drawRun P call ops (befores ops) (heavies P ops.toList 0) (canonGo (befores ops) ops.size (heavies P ops.toList 0) 0) T H
  else runOps P call ops ops.toList T H

/-! ## bodies -/
inductive AX where
  | normal
  | exit (id : Nat)
  | ret

abbrev Out := Option (AX × List AV × Heap)

def runLoop (f : List AV → Heap → Out) : Nat → List AV → Heap → Out
  | 0, _, _ => none
  | n + 1, T, H => match f T H with
    | some (.normal, T', H') => runLoop f n T' H'
    | r => r

/-- No range over a function. -/
def noRange : Code → Bool
  | .rangeFunc _ _ _ _ => false
  | .seq a b => noRange a && noRange b
  | .cond _ a b => noRange a && noRange b
  | .block _ a => noRange a
  | .loop a => noRange a
  | .scope a => noRange a
  | _ => true

/-- A value that nothing is: with it a sequence's elements are asked for. -/
def AV.ask : AV := .slice none 1 0 none

/-- The rounds of a range over a function that yields these. -/
def seqRun (f : AV → Heap → Out) (T : List AV) : List AV → Heap → Out
  | [], H => some (.normal, T, H)
  | x :: xs, H => match f x H with
    | some (.normal, _, H') => seqRun f T xs H'
    | some (e, _, H') => some (e, T, H')
    | none => none

def thenRun (f g : List AV → Heap → Out) (T : List AV) (H : Heap) : Out := match f T H with
  | some (.normal, T', H') => g T' H'
  | _ => none

def runCode (P : Program) (call : CallFn) (n : Nat) : Code → List AV → Heap → Out
  | .skip, T, H => some (.normal, T, H)
  | .label _, T, H => some (.normal, T, H)
  | .region _ ops draw, T, H => match runRegion P call ops draw T H with
    | some (T', H') => some (.normal, T', H')
    | none => none
  | .seq a b, T, H => match runCode P call n a T H with
    | some (.normal, T', H') => runCode P call n b T' H'
    | r => r
  | .cond c x y, T, H => match ev P T c with
    | some (.bool true) => runCode P call n x T H
    | some (.bool false) => runCode P call n y T H
    | _ => none
  | .block id body, T, H => match runCode P call n body T H with
    | some (.exit id', T', H') => if id' = id then some (.normal, T', H') else some (.exit id', T', H')
    | r => r
  | .loop body, T, H => runLoop (runCode P call n body) n T H
  | .exit id, T, H => some (.exit id, T, H)
  | .scope body, T, H => runCode P call n body T H
  | .ret, T, H => some (.ret, T, H)
  | .rangeFunc g ps assign body, T, H =>
    if noRange assign && noRange body then
      match ps.toList, ev P T g with
      | [p], some (.func (.func gf) [] lb) => match call (P.funcs.size + gf) (.ask :: lb) H with
        | some (.tuple xs, H1) => seqRun (fun x H => thenRun (runCode P call n assign) (runCode P call n body) (T.set p x) H) T xs H1
        | _ => none
      | _, _ => none
    else none
  | _, _, _ => none

def resultsA (P : Program) (T : List AV) (H : Heap) : List ResultVar → Option (List AV)
  | [] => some []
  | .tmp t :: rs => match resultsA P T H rs with
    | some vs => some (T.getD t .undef :: vs)
    | none => none
  | .cell a t :: rs => match T.getD a .undef, tagg P t, tsz P t with
    | .ptr (some (b, o)), some g, some n => match H.get b with
      | some x => match readVar g n o x, resultsA P T H rs with
        | some v, some vs => some (v :: vs)
        | _, _ => none
      | none => none
    | _, _, _ => none

def tupled : List AV → AV
  | [v] => v
  | vs => .tuple vs

abbrev Prims := FuncId → Option (List AV → Heap → Option (AV × Heap))

def runBody (P : Program) (call : CallFn) (n : Nat) (fn : Func) (args : List AV) (H : Heap) : Option (AV × Heap) :=
  match fn.body with
  | none => none
  | some c => match runCode P call n c (args ++ List.replicate (fn.ntmps - args.length) .undef) H with
    | some (.normal, T, H') | some (.ret, T, H') => match resultsA P T H' fn.results.toList with
      | some vs => some (tupled vs, H')
      | none => none
    | _ => none

def acall (P : Program) (prims : Prims) : Nat → CallFn
  | 0, _, _, _ => none
  | n + 1, f, args, H => match prims f with
    | some g => g args H
    | none => match P.funcs[f]? with
      | some fn => runBody P (acall P prims n) n fn args H
      | none => none

def noPrims : Prims := fun _ => none

/-- Memory without a block of the run's own: numbers below G are the package-level variables'. -/
def Heap.start (G : Nat) : Heap := { next := G, tree := .leaf }

end Go.Abs

/- Each operation of the model comes to what the abstract machine says: operands, loads and stores, new blocks. -/
namespace Go.Abs
set_option linter.unusedVariables false
set_option linter.unusedSimpArgs false

/-! ## what an operation delivers -/
def Delivers (P : Program) (s : Sem Next) (w : World) (R : Value → World → Prop) : Prop :=
  match s.run P w with
  | .ok (.value v) w' => R v w'
  | .ok .skip w' => R Go.undef w'
  | .ok (.enter f args) w' => Calls P f args w' fun e w'' => ∃ v, e = .returned v ∧ R v w''
  | _ => False

/-- Every function may be called, however deep; 'ro': the round of a range over a function in which it is. -/
abbrev Fr (ro : Option Nat) : Fence := { Fence.wide with round := ro }
theorem fr_fn (ro : Option Nat) (f : FuncId) : (Fr ro).fn f := trivial
theorem callsIn_fr {ro : Option Nat} {n : Nat} {P : Program} {f : FuncId} {args : Array Value} {w : World} {R : Ending → World → Prop} (h : Calls P f args w R) : CallsIn (Fr ro) n P f args w R := (callsIn_wide (n := n)).2 h

theorem wp_of_delivers {ro : Option Nat} {n : Nat} {P : Program} {o : Oper} {a : Act} {w : World} {next : Act → World → Prop} {Q : Exit → Act → World → Prop} {R : Value → World → Prop}
    (h : Delivers P (execOp a.eval o) w R) (hn : ∀ v w', R v w' → next (a.put o.dst v) w') : o.wpIn (Fr ro) n P a w next Q := by
  have hd : ∀ c, o.op ≠ .defer c := by
    intro c hc
    unfold Delivers execOp at h
    simp only [hc] at h
    simp only [Sem.run_bind] at h
    cases hr : (resolve a.eval c o.type).run P w <;> simp [hr] at h
  unfold Oper.wpIn
  refine ⟨fun _ _ => trivial, ?_⟩
  rw [Oper.semAt_eq _ _ _ hd]
  unfold Delivers at h
  generalize (execOp a.eval o).run P w = r at *
  cases r with
  | ok x w' =>
    cases x
    case enter f args =>
      simp only [Oper.uponIn]
      refine ⟨fun e => by simp [Fr, Fence.wide] at e, CallsIn.mono (callsIn_fr h) ?_⟩
      rintro e w'' ⟨v, rfl, hv⟩
      exact hn _ _ hv
    all_goals first
      | exact hn _ _ h
      | exact h.elim
  | halt x w' => exact h.elim

/-- What is claimed of an operation: its value and the memory behind it are the abstract machine's. -/
def Does (P : Program) (ρ : Map) (H : Heap) (w : World) (v : AV) (H' : Heap) (s : Sem Next) : Prop :=
  Delivers P s w fun u w' => ∃ ρ', Good P.globals.size ρ H w ρ' H' w' ∧ VRel ρ' v u

theorem does_value {P : Program} {ρ : Map} {H : Heap} {w w' : World} {v : AV} {H' : Heap} {s : Sem Next} {u : Value} {ρ' : Map}
    (h : s.run P w = .ok (.value u) w') (hg : Good P.globals.size ρ H w ρ' H' w') (hv : VRel ρ' v u) : Does P ρ H w v H' s := by
  unfold Does Delivers
  rw [h]
  exact ⟨ρ', hg, hv⟩

theorem does_skip {P : Program} {ρ : Map} {H : Heap} {w w' : World} {H' : Heap} {s : Sem Next} {ρ' : Map}
    (h : s.run P w = .ok .skip w') (hg : Good P.globals.size ρ H w ρ' H' w') : Does P ρ H w .undef H' s := by
  unfold Does Delivers
  rw [h]
  exact ⟨ρ', hg, VRel.undef _⟩

/-- A value of the memory that is there. -/
theorem does_pure {P : Program} {ρ : Map} {H : Heap} {w : World} {v : AV} {s : Sem Next} {u : Value} (hs : Sim P.globals.size ρ H w)
    (h : s.run P w = .ok (.value u) w) (hv : VRel ρ v u) : Does P ρ H w v H s :=
  does_value h (Good.refl hs) hv

abbrev Frel (ρ : Map) (T : List AV) (a : Act) : Prop := VRels ρ T a.tmps.toList

abbrev Glob (P : Program) (ρ : Map) : Prop := ∀ g, g < P.globals.size → ∃ p, ρ g = some p ∧ p.blk = g ∧ p.off = 0

theorem getD_rel {ρ : Map} {T : List AV} {l : Array Value} (h : VRels ρ T l.toList) (t : Nat) : VRel ρ (T.getD t .undef) (l.getD t Go.undef) := by
  have hl := h.length
  by_cases ht : t < T.length
  · obtain ⟨v, hv, r⟩ := h.get t T[t] (by simp [ht])
    rw [List.getD_eq_getElem?_getD, List.getElem?_eq_getElem ht]
    have : l.getD t Go.undef = v := by
      rw [Array.getD_eq_getD_getElem?, ← Array.getElem?_toList, hv]; rfl
    rw [this]; exact r
  · rw [List.getD_eq_getElem?_getD, List.getElem?_eq_none (by omega), Array.getD_eq_getD_getElem?, ← Array.getElem?_toList, List.getElem?_eq_none (by omega)]
    exact VRel.undef ρ

theorem ev_rel {P : Program} {ρ : Map} {T : List AV} {a : Act} (hf : Frel ρ T a) (hg : Glob P ρ) {x : Operand} {v : AV} (h : ev P T x = some v) : VRel ρ v (a.eval x) := by
  cases x with
  | tmp t => simp only [ev, Option.some.injEq] at h; subst h; exact getD_rel hf t
  | const c => exact ofConst_rel h ρ
  | global g =>
    simp only [ev] at h
    split at h
    · rename_i hlt
      injection h with h; subst h
      obtain ⟨p, hp, h1, h2⟩ := hg g hlt
      exact ⟨p, hp, by simp [Act.eval, h1, h2]⟩
    · exact absurd h (by simp)
  | func f => simp only [ev, Option.some.injEq] at h; subst h; exact ⟨#[], #[], rfl, rfl, rfl⟩

theorem evs_rel {P : Program} {ρ : Map} {T : List AV} {a : Act} (hf : Frel ρ T a) (hg : Glob P ρ) {l : Array Operand} {vs : List AV} (h : mapOpt (ev P T) l.toList = some vs) :
    VRels ρ vs (l.map a.eval).toList := by
  have := mapOpt_rel (ρ := ρ) (g := a.eval) (fun x v hx => ev_rel hf hg hx) h
  simpa using this

/-! ## types -/
theorem tsz_run {P : Program} {t : TypeId} {n : Nat} (h : tsz P t = some n) (w : World) : (sizeOf t).run P w = .ok n w := by
  unfold tsz at h
  cases hi : P.info? t with
  | none => simp [hi] at h
  | some i => simp [hi] at h; simp [sizeOf, typeInfo, hi, h]

theorem tinfo_run {P : Program} {t : TypeId} {i : TypeInfo} (h : P.info? t = some i) (w : World) : (typeInfo t).run P w = .ok i w := by
  simp [typeInfo, h]

theorem tagg_run {P : Program} {t : TypeId} {g : Bool} (h : tagg P t = some g) (w : World) : (isAgg t).run P w = .ok g w := by
  unfold tagg at h
  cases hd : P.underlying t with
  | none => simp [hd] at h
  | some d => cases d <;> simp [hd] at h <;> subst h <;> simp [isAgg, underlying, hd]

theorem tzero_run {P : Program} {t : TypeId} {z : AV} (h : tzero P t = some z) : ∃ u, (∀ w, (zeroValue t).run P w = .ok u w) ∧ ∀ ρ, VRel ρ z u := by
  unfold tzero at h
  cases hi : P.info? t with
  | none => simp [hi] at h
  | some i =>
    cases hz : i.zero with
    | none => simp [hi, hz] at h
    | some u =>
      simp [hi, hz] at h
      exact ⟨u, fun w => by simp [zeroValue, typeInfo, hi, hz], fun ρ => ofConst_rel h ρ⟩

/-! ## reading -/
theorem addr_add (b o j : Nat) : (⟨b, o, none⟩ : Addr).add j = ⟨b, o + j, none⟩ := by
  unfold Addr.add
  split
  · rename_i h; subst h; rfl
  · rfl

theorem cell_of {w : World} {B : Nat} {C : Array Value} {e : TypeId} {fr : Nat × Nat} (h : w.heap[B]? = some (.cells C e fr)) (j : Nat) : w.cell? ⟨B, j, none⟩ = C[j]? := by
  simp [World.cell?, h]

/-- A row of cells read, in whatever world the block lies. -/
theorem cells_reads {ρ : Map} {P : Program} {c : List AV} {C : Array Value} {off B : Nat} {e : TypeId} {fr : Nat × Nat} (hc : CRel ρ c C off)
    (o n : Nat) (hn : o + n ≤ c.length) : ∃ us : Array Value, (∀ w : World, w.heap[B]? = some (.cells C e fr) → (loadCells ⟨B, off + o, none⟩ n).run P w = .ok us w) ∧ VRels ρ ((c.drop o).take n) us.toList := by
  have key : ∀ i, i < n → ∃ u, C[off + o + i]? = some u ∧ ∃ a, c[o + i]? = some a ∧ VRel ρ a u := by
    intro i hi
    obtain ⟨u, hu, r⟩ := hc (o + i) c[o + i] (by simp [show o + i < c.length by omega])
    exact ⟨u, by rw [← hu]; congr 1; omega, c[o + i], by simp [show o + i < c.length by omega], r⟩
  let us : List Value := (List.range n).map fun i => (C[off + o + i]?).getD Go.undef
  have hlen : us.length = n := by simp [us]
  have hget : ∀ i u, us[i]? = some u → i < n ∧ C[off + o + i]? = some u := by
    intro i u hu
    have hi : i < n := by
      rcases Nat.lt_or_ge i n with h | h
      · exact h
      · rw [List.getElem?_eq_none (by omega)] at hu; exact absurd hu (by simp)
    obtain ⟨x, hx, _⟩ := key i hi
    simp [us, hi, hx] at hu
    exact ⟨hi, by rw [← hu]; exact hx⟩
  refine ⟨us.toArray, ?_, ?_⟩
  · intro w hh
    have := run_loadCells_list (P := P) w ⟨B, off + o, none⟩ us (fun j v hj => by
      rw [addr_add, cell_of hh]
      exact (hget j v hj).2)
    rw [hlen] at this
    exact this
  · refine VRels.mk (by simp [hlen]; omega) ?_
    intro i a v ha hv
    obtain ⟨hi, hC⟩ := hget i v (by simpa using hv)
    obtain ⟨u, hu, b, hb, r⟩ := key i hi
    rw [hu] at hC; injection hC with hC; subst hC
    rw [List.getElem?_take, if_pos hi, List.getElem?_drop, hb] at ha
    injection ha with ha; subst ha
    exact r

/-- A row of cells read. -/
theorem cells_read {ρ : Map} {w : World} {P : Program} {c : List AV} {C : Array Value} {off B : Nat} {e : TypeId} {fr : Nat × Nat} (hh : w.heap[B]? = some (.cells C e fr)) (hc : CRel ρ c C off)
    (o n : Nat) (hn : o + n ≤ c.length) : ∃ us : Array Value, (loadCells ⟨B, off + o, none⟩ n).run P w = .ok us w ∧ VRels ρ ((c.drop o).take n) us.toList := by
  obtain ⟨us, h, r⟩ := cells_reads (P := P) (B := B) (e := e) (fr := fr) hc o n hn
  exact ⟨us, h w hh, r⟩

theorem load_cell {w : World} {P : Program} {a : Addr} {v : Value} (h : w.cell? a = some v) : (load a).run P w = .ok v w := by simp [h]

/-- A variable read. -/
theorem var_read {P : Program} {G : Nat} {ρ : Map} {H : Heap} {w : World} (hs : Sim G ρ H w) {t : TypeId} {g : Bool} {n b o : Nat} {x : AObj} {v : AV} {p : Place}
    (hg : tagg P t = some g) (hn : tsz P t = some n) (hx : H.get b = some x) (hp : ρ b = some p) (hr : readVar g n o x = some v) :
    ∃ u, (loadVar t ⟨p.blk, p.off + o, none⟩).run P w = .ok u w ∧ VRel ρ v u := by
  cases x with
  | map es => simp [readVar] at hr
  | iter s pos => simp [readVar] at hr
  | dead => simp [readVar] at hr
  | cells c e own mk =>
    obtain ⟨p1, C, el, fr, hp1, hh, hc, _⟩ := hs.obj b _ hx
    rw [hp] at hp1; injection hp1 with hp1; subst hp1
    simp only [readVar] at hr
    cases g with
    | true =>
      simp only [if_true] at hr
      split at hr
      · rename_i hle
        injection hr with hr; subst hr
        obtain ⟨us, hu, r⟩ := cells_read (P := P) hh hc o n hle
        exact ⟨.agg us, by simp [loadVar, tagg_run hg, tsz_run hn, hu], us, rfl, r⟩
      · exact absurd hr (by simp)
    | false =>
      simp at hr
      obtain ⟨u, hu, r⟩ := hc o v hr
      exact ⟨u, by simp [loadVar, tagg_run hg, World.cell?, hh, hu], r⟩

/-! ## writing -/
theorem run_store_one {P : Program} {w : World} {a : Addr} {v : Value} (h1 : (∀ cs, v ≠ .agg cs) ∧ (∀ cs, v ≠ .tuple cs)) (hc : ∃ u, w.cell? a = some u) (hf : w.frozen? a = false) :
    (store a v).run P w = .ok () (w.setCell a v) := by
  have h : v.oneCell' = true := by
    cases v <;> first | rfl | exact absurd rfl (h1.1 _) | exact absurd rfl (h1.2 _)
  obtain ⟨u, hu⟩ := hc
  rw [run_store P w a v .plain h, hu]
  simp [hf]

theorem set_self_get {H : Heap} {b : Nat} {o : AObj} (h : H.get b = some o) : ∀ x, (H.set b o).get x = H.get x := by
  intro x
  rw [Heap.get_set]
  split
  · rename_i e; subst e; exact h.symm
  · rfl

/-- Cells written one behind the other. -/
theorem cells_written {P : Program} {ρ : Map} {b : Nat} {p : Place} {e : TypeId} {m : Bool} (hp : ρ b = some p) : ∀ (vs : List AV) (us : List Value) {G : Nat} {H : Heap} {w : World} {c : List AV} (o0 i : Nat),
    Sim G ρ H w → H.get b = some (.cells c e true m) → o0 + i + vs.length ≤ c.length → VRels ρ vs us → vs.all AV.one = true →
    ∃ w', (storeCells ⟨p.blk, p.off + o0, none⟩ us i).run P w = .ok () w' ∧ Good G ρ H w ρ (H.set b (.cells (writeAt c (o0 + i) vs) e true m)) w'
  | [], us, G, H, w, c, o0, i, hs, hg, hl, hv, h1 => by
    cases hv
    exact ⟨w, rfl, (Good.refl hs).congr (set_self_get hg) rfl⟩
  | v :: vs, us, G, H, w, c, o0, i, hs, hg, hl, ⟨u, us', hu, hv, hvs⟩, h1 => by
    subst hu
    simp only [List.all_cons, Bool.and_eq_true] at h1
    simp only [List.length_cons] at hl
    obtain ⟨hg1, hcell, hfr⟩ := Good.write1 hs hg (o := o0 + i) (by omega) hp hv
    have hst := run_store_one (P := P) (hv.one h1.1) hcell hfr
    obtain ⟨w', hrun, hg2⟩ := cells_written hp vs us' o0 (i + 1) hg1.sim (Heap.get_set_same _ _ _) (by simp; omega) hvs h1.2
    refine ⟨w', ?_, ?_⟩
    · simp only [storeCells, Sem.run_bind, addr_add]
      rw [show p.off + o0 + i = p.off + (o0 + i) by omega, hst]
      simp only [Result.andThen_ok]
      exact hrun
    · refine (hg1.trans hg2).congr ?_ rfl
      intro x
      simp only [Heap.get_set, writeAt, Nat.add_assoc]
      split <;> rfl

theorem writeCells_run {P : Program} {G : Nat} {ρ : Map} {H H' : Heap} {w : World} (hs : Sim G ρ H w) {b o : Nat} {vs : List AV} {us : List Value} {p : Place} (hp : ρ b = some p)
    (h : writeCells H b o vs = some H') (hv : VRels ρ vs us) : ∃ w', (storeCells ⟨p.blk, p.off + o, none⟩ us).run P w = .ok () w' ∧ Good G ρ H w ρ H' w' := by
  unfold writeCells at h
  split at h
  · injection h with h; subst h
    cases hv
    exact ⟨w, rfl, Good.refl hs⟩
  · split at h
    · rename_i c e m hg
      split at h
      · rename_i hc
        injection h with h; subst h
        simp only [Bool.and_eq_true, decide_eq_true_eq] at hc
        obtain ⟨w', hr, hg'⟩ := cells_written (P := P) hp vs us o 0 hs hg (by omega) hv hc.2
        exact ⟨w', hr, hg'⟩
      · exact absurd h (by simp)
    · exact absurd h (by simp)

/-- Cells laid behind the last one, out of the slack. -/
theorem cells_extended {P : Program} {ρ : Map} {b : Nat} {p : Place} {e : TypeId} {m : Bool} (hp : ρ b = some p) : ∀ (vs : List AV) (us : List Value) {G : Nat} {H : Heap} {w : World} {c : List AV} (o0 i : Nat),
    Sim G ρ H w → H.get b = some (.cells c e true m) → o0 + i = c.length → c.length + vs.length ≤ p.tot → VRels ρ vs us → vs.all AV.one = true →
    ∃ w', (storeCells ⟨p.blk, p.off + o0, none⟩ us i).run P w = .ok () w' ∧ Good G ρ H w ρ (H.set b (.cells (c ++ vs) e true m)) w'
  | [], us, G, H, w, c, o0, i, hs, hg, hl, _, hv, h1 => by
    cases hv
    exact ⟨w, rfl, (Good.refl hs).congr (by rw [List.append_nil]; exact set_self_get hg) rfl⟩
  | v :: vs, us, G, H, w, c, o0, i, hs, hg, hl, hl2, ⟨u, us', hu, hv, hvs⟩, h1 => by
    subst hu
    simp only [List.all_cons, Bool.and_eq_true] at h1
    simp only [List.length_cons] at hl2
    obtain ⟨hg1, hcell, hfr⟩ := Good.extend1 hs hg (by omega) hp hv
    have hst := run_store_one (P := P) (hv.one h1.1) hcell hfr
    obtain ⟨w', hrun, hg2⟩ := cells_extended hp vs us' o0 (i + 1) hg1.sim (Heap.get_set_same _ _ _) (by simp; omega) (by simp; omega) hvs h1.2
    refine ⟨w', ?_, ?_⟩
    · simp only [storeCells, Sem.run_bind, addr_add]
      rw [show p.off + o0 + i = p.off + c.length by omega, hst]
      simp only [Result.andThen_ok]
      exact hrun
    · refine (hg1.trans hg2).congr ?_ rfl
      intro x
      simp only [Heap.get_set, List.append_assoc, List.singleton_append]
      split <;> rfl

/-! ## new blocks -/
/-- A new block of cells. -/
theorem Good.newCells {G : Nat} {ρ : Map} {H : Heap} {w : World} (hs : Sim G ρ H w) (hn : ρ H.next = none) {cs : List AV} {C : Array Value} {e el : TypeId} {m : Bool} {fr : Nat × Nat}
    (hc : VRels ρ cs (C.toList.take cs.length)) (hl : cs.length ≤ C.size) (hfr : fr = (0, 0) ∨ (m = true ∧ fr = (C.size, C.size + 1))) :
    Good G ρ H w (upd ρ H.next ⟨w.heap.size, 0, C.size⟩) (H.push (.cells cs e true m)) (w.alloc (.cells C el fr)) := by
  refine Good.push hs hn ?_ rfl
  refine ⟨_, C, el, fr, upd_same _ _ _, push_at _, ?_, by simpa using hl, hl, fun _ => ⟨by simp, hfr⟩⟩
  intro i a ha
  obtain ⟨v, hv, r⟩ := hc.get i a ha
  refine ⟨v, ?_, VRel.mono (Ext.upd _ hn) _ _ r⟩
  rw [List.getElem?_take] at hv
  split at hv
  · simpa using hv
  · exact absurd hv (by simp)

theorem Good.newRow {G : Nat} {ρ : Map} {H : Heap} {w : World} (hs : Sim G ρ H w) (hn : ρ H.next = none) {cs : List AV} {C : Array Value} {e el : TypeId} (hc : VRels ρ cs C.toList) (m : Bool) :
    Good G ρ H w (upd ρ H.next ⟨w.heap.size, 0, C.size⟩) (H.push (.cells cs e true m)) (w.alloc (.cells C el)) := by
  have hl := hc.length
  refine Good.newCells hs hn ?_ (by simp at hl; omega) (.inl rfl)
  rw [List.take_of_length_le (by simp at hl; simp; omega)]
  exact hc

end Go.Abs

/- Each operation of the model comes to what the abstract machine says: one lemma an operation. -/
namespace Go.Abs
set_option linter.unusedVariables false
set_option linter.unusedSimpArgs false

/-- No block beyond the next number. -/
def Wf (H : Heap) : Prop := ∀ b, H.next ≤ b → H.get b = none

/-- What a call is claimed to do. -/
def CallOk (P : Program) (call : CallFn) : Prop :=
  ∀ (f : FuncId) (args : List AV) (H : Heap) (v : AV) (H' : Heap), call f args H = some (v, H') → ∀ (ρ : Map) (w : World) (us : Array Value), Sim P.globals.size ρ H w →
    Wf H → (∀ b, H.next ≤ b → b < H'.next → ρ b = none) → VRels ρ args us.toList → Does P ρ H w v H' (callFunc f us)

theorem does_congr {P : Program} {ρ : Map} {H H' : Heap} {w : World} {v : AV} {s s' : Sem Next} (h : s.run P w = s'.run P w) (hd : Does P ρ H w v H' s') : Does P ρ H w v H' s := by
  unfold Does Delivers at *
  rw [h]
  exact hd

/-- What is claimed of an operation's meaning. -/
def SemOk (P : Program) (a : Act) (s : Sm) (n : Sem Next) (ρ : Map) : Prop :=
  ∀ (H : Heap) (w : World) (v : AV) (H' : Heap), Sim P.globals.size ρ H w → s.run H = some (v, H') → (∀ b, H.next ≤ b → b < H'.next → ρ b = none) →
    (∀ k, s = .heavy k → Wf H) → Does P ρ H w v H' n

section
variable {P : Program} {a : Act} {ρ : Map}

/-- A value whatever the memory. -/
theorem semOk_pure {v : AV} {u : Value} {n : Sem Next} (h : ∀ w, n.run P w = .ok (.value u) w) (hv : VRel ρ v u) : SemOk P a (.pure v) n ρ := by
  intro H w v' H' hs hr _ hwf
  simp only [Sm.run, Option.some.injEq, Prod.mk.injEq] at hr
  obtain ⟨rfl, rfl⟩ := hr
  exact does_pure hs (h w) hv

theorem semOk_pure_skip {n : Sem Next} (h : ∀ w, n.run P w = .ok .skip w) : SemOk P a (.pure .undef) n ρ := by
  intro H w v' H' hs hr _ hwf
  simp only [Sm.run, Option.some.injEq, Prod.mk.injEq] at hr
  obtain ⟨rfl, rfl⟩ := hr
  exact does_skip (h w) (Good.refl hs)

/-- A new block of cells. -/
theorem semOk_newRow {cs : List AV} {C : Array Value} {e el : TypeId} {m : Bool} {mk : Nat → AV} {n : Sem Next} {u : Nat → Value}
    (h : ∀ w, n.run P w = .ok (.value (u w.heap.size)) (w.alloc (.cells C el))) (hc : VRels ρ cs C.toList)
    (hv : ∀ ρ' b B, ρ' b = some ⟨B, 0, C.size⟩ → VRel ρ' (mk b) (u B)) : SemOk P a (.alloc (.cells cs e true m) mk) n ρ := by
  intro H w v' H' hs hr hfree hwf
  simp only [Sm.run, Option.some.injEq, Prod.mk.injEq] at hr
  obtain ⟨rfl, rfl⟩ := hr
  exact does_value (h w) (Good.newRow hs (hfree _ (Nat.le_refl _) (by simp)) hc m) (hv _ _ _ (upd_same _ _ _))

theorem run_v (s : Sem Value) (w w' : World) (u : Value) (h : s.run P w = .ok u w') : (do pure (Next.value (← s)) : Sem Next).run P w = .ok (.value u) w' := by
  simp [h]

theorem run_u (s : Sem Unit) (w w' : World) (h : s.run P w = .ok () w') : (do s; pure Next.skip : Sem Next).run P w = .ok .skip w' := by
  simp [h]

/-! ## lists of cells -/
theorem foldl_write {ρ : Map} : ∀ (vs : List AV) (us : List Value) (cs : List AV) (A : Array Value) (off k : Nat), VRels ρ vs us → VRels ρ cs A.toList →
    VRels ρ (writeAt cs (off + k) vs) ((us.zipIdx k).foldl (fun cs (x : Value × Nat) => cs.setIfInBounds (off + x.2) x.1) A).toList
  | [], us, cs, A, off, k, hv, hc => by cases hv; simpa [writeAt] using hc
  | v :: vs, us, cs, A, off, k, ⟨u, us', hu, hv, hvs⟩, hc => by
    subst hu
    simp only [List.zipIdx_cons, List.foldl_cons, writeAt]
    exact foldl_write vs us' (cs.set (off + k) v) (A.setIfInBounds (off + k) u) off (k + 1) hvs (by rw [Array.toList_setIfInBounds]; exact hc.set _ hv)

theorem size_cells {ρ : Map} {v : AV} {u : Value} (h : VRel ρ v u) : u.cells.size = v.cells.length := by
  have := h.cells.length
  simpa using this

inductive PRels (ρ : Map) : List (Nat × AV) → List (Nat × Value) → Prop where
  | nil : PRels ρ [] []
  | cons {i v u r r'} : VRel ρ v u → PRels ρ r r' → PRels ρ ((i, v) :: r) ((i, u) :: r')

theorem fill_rel {ρ : Map} {place : Nat → Option (Nat × Nat)} : ∀ {parts : List (Nat × AV)} {parts' : List (Nat × Value)} {cs cs' : List AV} {A : Array Value}, PRels ρ parts parts' → VRels ρ cs A.toList →
    fillA place cs parts = some cs' → ∃ A', Instr.fill place A parts' = some A' ∧ VRels ρ cs' A'.toList
  | _, _, cs, cs', A, .nil, hc, h => by
    simp only [fillA, Option.some.injEq] at h
    subst h
    exact ⟨A, rfl, hc⟩
  | _, _, cs, cs', A, .cons (i := i) (v := v) (u := u) hv hr, hc, h => by
    simp only [fillA] at h
    cases hp : place i with
    | none => simp [hp] at h
    | some q =>
      obtain ⟨off, size⟩ := q
      simp only [hp] at h
      split at h
      · exact absurd h (by simp)
      · rename_i hno
        have hsz := size_cells hv
        have hA := hc.length
        simp only [Bool.or_eq_true, decide_eq_true_eq, not_or, ne_eq, Decidable.not_not] at hno
        have hw := foldl_write v.cells u.cells.toList cs A off 0 hv.cells hc
        obtain ⟨A', hf, r⟩ := fill_rel hr (by simpa using hw) h
        refine ⟨A', ?_, r⟩
        simp only [Instr.fill, hp]
        rw [if_neg (by simp only [Bool.or_eq_true, decide_eq_true_eq, not_or, ne_eq, Decidable.not_not]; simp at hA; omega)]
        rw [← hf]
        congr 1
        rw [← Array.foldl_toList, Array.toList_zipIdx]

theorem evParts_rel {T : List AV} (hf : Frel ρ T a) (hg : Glob P ρ) : ∀ {parts : List (Nat × Operand)} {ps : List (Nat × AV)}, evParts P T parts = some ps → PRels ρ ps (parts.map fun (i, x) => (i, a.eval x))
  | [], ps, h => by simp only [evParts, Option.some.injEq] at h; subst h; exact .nil
  | (i, x) :: r, ps, h => by
    simp only [evParts] at h
    cases hx : ev P T x with
    | none => simp [hx] at h
    | some v =>
      cases hr : evParts P T r with
      | none => simp [hx, hr] at h
      | some vs =>
        simp [hx, hr] at h
        subst h
        exact .cons (ev_rel hf hg hx) (evParts_rel hf hg hr)

theorem length_zeros (zc : List AV) (n : Nat) : (zeros zc n).length = n * zc.length := by
  induction n with
  | zero => simp [zeros]
  | succ n ih => simp [zeros, ih, Nat.succ_mul]; omega

theorem get_zeros (zc : List AV) (n i : Nat) (h : i < n * zc.length) : (zeros zc n)[i]? = zc[i % zc.length]? := by
  induction n generalizing i with
  | zero => simp at h
  | succ n ih =>
    simp only [zeros]
    by_cases hi : i < zc.length
    · rw [List.getElem?_append_left hi, Nat.mod_eq_of_lt hi]
    · rw [List.getElem?_append_right (by omega), ih _ (by rw [Nat.succ_mul] at h; omega), Nat.mod_eq_sub_mod (show zc.length ≤ i by omega)]

theorem zeros_rel {zc : List AV} {zu : Array Value} (h : VRels ρ zc zu.toList) (n : Nat) (hn : n * zc.length ≠ 0 ∨ True) :
    VRels ρ (zeros zc n) ((Array.range (n * zc.length)).map (zu[· % zu.size]!)).toList := by
  have hl := h.length
  simp at hl
  refine VRels.mk (by simp [length_zeros]) ?_
  intro i x v hx hv
  have hi : i < n * zc.length := by
    rcases Nat.lt_or_ge i (n * zc.length) with h | h
    · exact h
    · rw [List.getElem?_eq_none (by rw [length_zeros]; exact h)] at hx; exact absurd hx (by simp)
  have hpos : 0 < zc.length := by
    rcases Nat.eq_zero_or_pos zc.length with e | e
    · rw [e] at hi; simp at hi
    · exact e
  rw [get_zeros _ _ _ hi] at hx
  obtain ⟨u, hu, r⟩ := h.get _ x hx
  simp [hi] at hv
  rw [← hv]
  have hlt : i % zu.size < zu.size := Nat.mod_lt _ (by omega)
  have : u = zu[i % zu.size]! := by
    rw [getElem!_pos zu _ hlt]
    rw [← hl] at hu
    simp [hlt] at hu
    exact hu.symm
  rw [← this]; exact r

/-! ## build -/
theorem fieldPlaces_run : ∀ {fs : List Field} {places : List (Nat × Nat)}, fieldPlaces P fs = some places → ∀ w,
    (fs.mapM (m := Sem) fun f => do pure (f.offset, ← sizeOf f.type)).run P w = .ok places w
  | [], places, h, w => by simp only [fieldPlaces, Option.some.injEq] at h; subst h; simp
  | f :: fs, places, h, w => by
    simp only [fieldPlaces] at h
    cases hn : tsz P f.type with
    | none => simp [hn] at h
    | some n =>
      cases hr : fieldPlaces P fs with
      | none => simp [hn, hr] at h
      | some r =>
        simp [hn, hr] at h
        subst h
        simp only [List.mapM_cons, Sem.run_bind, tsz_run hn, Result.andThen_ok, Sem.run_pure]
        have := fieldPlaces_run hr w
        rw [this]
        simp

theorem build_ok {t : TypeId} {ps : List (Nat × AV)} {parts : Array (Nat × Value)} {v : AV} (h : buildA P t ps = some v) (hp : PRels ρ ps parts.toList) :
    ∃ u, (∀ w, (Instr.build t parts).run P w = .ok u w) ∧ VRel ρ v u := by
  unfold buildA at h
  split at h
  · rename_i z fields hz hd
    cases hpl : fieldPlaces P fields.toList with
    | none => simp [hpl] at h
    | some places =>
      simp only [hpl] at h
      cases hfl : fillA (fun x => places[x]?) z.cells ps with
      | none => simp [hfl] at h
      | some cs' =>
        simp [hfl] at h
        subst h
        obtain ⟨zu, hzu, hzr⟩ := tzero_run hz
        obtain ⟨A', hA, r⟩ := fill_rel hp (hzr ρ).cells hfl
        refine ⟨.agg A', fun w => ?_, A', rfl, r⟩
        have hm : (fields.mapM (m := Sem) fun f => do pure (f.offset, ← sizeOf f.type)).run P w = .ok places.toArray w := by
          rw [Array.mapM_eq_mapM_toList]
          simp only [Sem.run_map, fieldPlaces_run hpl w, Result.andThen_ok]
        simp only [Instr.build, Sem.run_bind, hzu, Result.andThen_ok, underlying, run_program, hd, Sem.run_pure]
        rw [hm]
        simp only [Result.andThen_ok, List.getElem?_toArray, hA]
        rfl
  · rename_i z len elem hz hd
    cases hn : tsz P elem with
    | none => simp [hn] at h
    | some size =>
      simp only [hn] at h
      cases hfl : fillA (fun i => some (i * size, size)) z.cells ps with
      | none => simp [hfl] at h
      | some cs' =>
        simp [hfl] at h
        subst h
        obtain ⟨zu, hzu, hzr⟩ := tzero_run hz
        obtain ⟨A', hA, r⟩ := fill_rel hp (hzr ρ).cells hfl
        refine ⟨.agg A', fun w => ?_, A', rfl, r⟩
        simp only [Instr.build, Sem.run_bind, hzu, Result.andThen_ok, underlying, run_program, hd, Sem.run_pure, tsz_run hn, hA]
  · exact absurd h (by simp)

theorem buildSlice_ok {t : TypeId} {len : Nat} {ps : List (Nat × AV)} {parts : Array (Nat × Value)} {s : Sm} (h : buildSliceA P t len ps = some s) (hp : PRels ρ ps parts.toList) :
    SemOk P a s (do pure (.value (← Instr.buildSlice t len parts))) ρ := by
  unfold buildSliceA at h
  split at h
  · rename_i elem hd
    split at h
    · rename_i size z hn hz
      split at h
      · exact absurd h (by simp)
      · rename_i hno
        simp only [Bool.or_eq_true, decide_eq_true_eq, not_or, ne_eq, Decidable.not_not] at hno
        split at h
        · rename_i cells hfl
          injection h with h
          subst h
          obtain ⟨zu, hzu, hzr⟩ := tzero_run hz
          have hzc := (hzr ρ).cells
          have hzl := hzc.length
          simp at hzl
          by_cases h0 : len * size = 0
          · have hzz : zeros z.cells len = [] := by
              apply List.eq_nil_of_length_eq_zero
              rw [length_zeros, hno.2]; exact h0
            rw [hzz] at hfl
            obtain ⟨A', hA, r⟩ := fill_rel (A := #[]) hp (by rfl) hfl
            refine semOk_newRow (C := A') (el := elem) (u := fun B => .slice (some ⟨B, 0, none⟩) len len) (fun w => ?_) r ?_
            · apply run_v
              simp only [Instr.buildSlice, Sem.run_bind, underlying, run_program, Result.andThen_ok, hd, Sem.run_pure, tsz_run hn]
              rw [if_neg hno.1]
              simp only [Sem.run_bind, Sem.run_ite, Sem.run_pure, Result.andThen_ok, h0, if_true]
              have e : (Array.map (fun x => (#[] : Array Value)[x % (#[] : Array Value).size]!) (Array.range 0)) = #[] := by simp
              rw [e, hA]
              simp [newRow]
            · intro ρ' b B hB
              exact ⟨_, _, _, hB, rfl, Nat.le_refl _, Nat.le_refl _, .inr (by simp), .inl rfl⟩
          · obtain ⟨A', hA, r⟩ := fill_rel hp (zeros_rel hzc len (.inr trivial)) hfl
            refine semOk_newRow (C := A') (el := elem) (u := fun B => .slice (some ⟨B, 0, none⟩) len len) (fun w => ?_) r ?_
            · apply run_v
              simp only [Instr.buildSlice, Sem.run_bind, underlying, run_program, Result.andThen_ok, hd, Sem.run_pure, tsz_run hn]
              rw [if_neg hno.1]
              simp only [Sem.run_bind, Sem.run_ite, Sem.run_pure, Result.andThen_ok]
              rw [if_neg h0]
              simp only [Sem.run_bind, hzu, Result.andThen_ok, Sem.run_pure]
              rw [hno.2] at hA
              rw [hA]
              simp [newRow]
            · intro ρ' b B hB
              exact ⟨_, _, _, hB, rfl, Nat.le_refl _, Nat.le_refl _, .inr (by simp), .inl rfl⟩
        · exact absurd h (by simp)
    · exact absurd h (by simp)
  · exact absurd h (by simp)

end
end Go.Abs

/- Arguments that a row hands in, read: whatever they are, an abstract memory of blocks that may only be read bears them. -/
namespace Go.Abs
set_option linter.unusedVariables false

/-- The parts of a struct lie one behind the other. -/
def tiles (P : Program) : List Field → Nat → Nat → Bool
  | [], o, n => o == n
  | f :: fs, o, n => f.offset == o && tiles P fs (o + P.cellsOf f.type) n

/-- Types that are read here: plain ones, slices, structs, arrays. -/
def readable (P : Program) : Nat → TypeId → Bool
  | 0, _ => false
  | n + 1, t => match P.underlying t with
    | some .bool | some (.int _) | some .string => true
    | some (.slice e) => decide (0 < P.cellsOf e) && readable P n e
    | some (.struct fs) => tiles P fs.toList 0 (P.cellsOf t) && fs.toList.all fun f => readable P n f.type
    | some (.array m e) => decide (0 < P.cellsOf e) && P.cellsOf t == m * P.cellsOf e && readable P n e
    | _ => false

/-- What is known of the cells of an argument of a type. -/
def Pic (P : Program) (H : Heap) : Nat → TypeId → List AV → Prop
  | 0, _, _ => False
  | n + 1, t, acs => match P.underlying t with
    | some .bool => ∃ b, acs = [.bool b]
    | some (.int k) => ∃ z, acs = [.int k z] ∧ (Lit.int k z).wf = true
    | some .string => ∃ s, acs = [.str s] ∧ s.length ≤ maxLen
    | some (.slice e) => acs = [.slice none 0 0 none] ∨ ∃ b len c, acs = [.slice (some (b, 0)) len len (some (P.cellsOf e))] ∧ b < H.next ∧ len ≤ maxLen ∧ c.length = len * P.cellsOf e ∧
        (0 < len → H.get b = some (.cells c e false false)) ∧ ∀ i, i < len → Pic P H n e ((c.drop (i * P.cellsOf e)).take (P.cellsOf e))
    | some (.struct fs) => acs.length = P.cellsOf t ∧ ∀ f ∈ fs.toList, Pic P H n f.type ((acs.drop f.offset).take (P.cellsOf f.type))
    | some (.array m e) => acs.length = P.cellsOf t ∧ ∀ i, i < m → Pic P H n e ((acs.drop (i * P.cellsOf e)).take (P.cellsOf e))
    | _ => False

/-- The memory only grows. -/
def HExt (H H' : Heap) : Prop := H.next ≤ H'.next ∧ ∀ b, b < H.next → H'.get b = H.get b

theorem HExt.refl (H : Heap) : HExt H H := ⟨Nat.le_refl _, fun _ _ => rfl⟩
theorem HExt.trans {H H' H'' : Heap} (h : HExt H H') (g : HExt H' H'') : HExt H H'' :=
  ⟨Nat.le_trans h.1 g.1, fun b hb => (g.2 b (Nat.lt_of_lt_of_le hb h.1)).trans (h.2 b hb)⟩

theorem Pic.mono {P : Program} {H H' : Heap} (h : HExt H H') : ∀ (n : Nat) (t : TypeId) (acs : List AV), Pic P H n t acs → Pic P H' n t acs
  | 0, _, _, hp => hp
  | n + 1, t, acs, hp => by
    unfold Pic at hp ⊢
    split at hp
    · exact hp
    · exact hp
    · exact hp
    · rcases hp with hp | ⟨b, len, c, h1, h2, h3, h4, h5, h6⟩
      · exact .inl hp
      · exact .inr ⟨b, len, c, h1, Nat.lt_of_lt_of_le h2 h.1, h3, h4, fun hl => (h.2 b h2).trans (h5 hl), fun i hi => Pic.mono h n _ _ (h6 i hi)⟩
    · exact ⟨hp.1, fun f hf => Pic.mono h n _ _ (hp.2 f hf)⟩
    · exact ⟨hp.1, fun i hi => Pic.mono h n _ _ (hp.2 i hi)⟩
    · exact hp

/-- What holds of the memory while the arguments are read. -/
structure Held (G : Nat) (ρ : Map) (H : Heap) (w : World) : Prop where
  sim : Sim G ρ H w
  ro : ∀ b o, H.get b = some o → o.own = false
  wf : Wf H
  free : ∀ b, H.next ≤ b → ρ b = none

theorem Held.add {G : Nat} {ρ : Map} {H : Heap} {w : World} (h : Held G ρ H w) (hG : G ≤ H.next) (p : Place) (o : AObj) (ho : o.own = false)
    (hr : ORel (upd ρ H.next p) w H.next o) : Held G (upd ρ H.next p) (H.push o) w := by
  have hnone : ρ H.next = none := h.free _ (Nat.le_refl _)
  have hext := Ext.upd p hnone
  refine ⟨⟨?_, ?_, ?_⟩, ?_, ?_, ?_⟩
  · intro b x hb
    rw [Heap.get_push] at hb
    by_cases e : b = H.next
    · rw [if_pos e] at hb
      injection hb with hb
      subst hb; subst e
      exact hr
    · rw [if_neg e] at hb
      exact (h.sim.obj b x hb).grow hext fun _ _ h => h
  · intro b b' x x' q q' hb hb' hne hl hown
    exfalso
    rw [Heap.get_push] at hb'
    by_cases e : b' = H.next
    · rw [if_pos e] at hb'
      injection hb' with hb'
      subst hb'
      rw [ho] at hown; cases hown
    · rw [if_neg e] at hb'
      rw [h.ro b' x' hb'] at hown; cases hown
  · intro g hg
    obtain ⟨q, hq, r⟩ := h.sim.glob g hg
    exact ⟨q, hext _ _ hq, r⟩
  · intro b x hb
    rw [Heap.get_push] at hb
    by_cases e : b = H.next
    · rw [if_pos e] at hb
      injection hb with hb
      subst hb
      exact ho
    · rw [if_neg e] at hb
      exact h.ro b x hb
  · intro b hb
    rw [Heap.next_push] at hb
    rw [Heap.get_push, if_neg (by omega)]
    exact h.wf b (by omega)
  · intro b hb
    rw [Heap.next_push] at hb
    rw [upd_ne ρ p (by omega)]
    exact h.free b (by omega)

theorem HExt.push {H : Heap} (o : AObj) : HExt H (H.push o) :=
  ⟨by simp, fun b hb => by rw [Heap.get_push, if_neg (by omega)]⟩

/-- What reading gives. -/
def Reads (P : Program) (w : World) (ρ : Map) (H : Heap) (n : Nat) (t : TypeId) (cs : List Value) : Prop :=
  ∃ ρ' H' acs, Held P.globals.size ρ' H' w ∧ Ext ρ ρ' ∧ HExt H H' ∧ VRels ρ' acs cs ∧ Pic P H' n t acs

theorem VRels.len {ρ : Map} {a : List AV} {l : List Value} (h : VRels ρ a l) : a.length = l.length := (VRels.length h).symm

/-- Pieces of a length, one behind the other, each of them read. -/
theorem reads_pieces {P : Program} {w : World} {n : Nat} {e : TypeId} {s : Nat} {cs : List Value}
    (ih : ∀ (ρ : Map) (H : Heap) (i : Nat), (i + 1) * s ≤ cs.length → Held P.globals.size ρ H w → P.globals.size ≤ H.next → Reads P w ρ H n e ((cs.drop (i * s)).take s)) :
    ∀ (k : Nat) (ρ : Map) (H : Heap), k * s ≤ cs.length → Held P.globals.size ρ H w → P.globals.size ≤ H.next →
      ∃ ρ' H' acs, Held P.globals.size ρ' H' w ∧ Ext ρ ρ' ∧ HExt H H' ∧ VRels ρ' acs (cs.take (k * s)) ∧ ∀ i, i < k → Pic P H' n e ((acs.drop (i * s)).take s)
  | 0, ρ, H, _, hi, _ => ⟨ρ, H, [], hi, Ext.refl ρ, HExt.refl H, by simp [VRels], fun i h => by omega⟩
  | k + 1, ρ, H, hk, hi, hG => by
    have hks : (k + 1) * s = k * s + s := by rw [Nat.add_mul]; omega
    obtain ⟨ρ1, H1, a1, i1, e1, x1, v1, p1⟩ := reads_pieces ih k ρ H (by omega) hi hG
    obtain ⟨ρ2, H2, a2, i2, e2, x2, v2, p2⟩ := ih ρ1 H1 k hk i1 (Nat.le_trans hG x1.1)
    have hl1 : a1.length = k * s := by rw [v1.len]; simp; omega
    have hl2 : a2.length = s := by rw [v2.len]; simp; omega
    refine ⟨ρ2, H2, a1 ++ a2, i2, e1.trans e2, x1.trans x2, ?_, ?_⟩
    · have : cs.take ((k + 1) * s) = cs.take (k * s) ++ (cs.drop (k * s)).take s := by
        rw [hks, List.take_add]
      rw [this]
      exact (VRels.mono e2 _ _ v1).append v2
    · intro i hik
      by_cases h : i < k
      · have hb : (i + 1) * s ≤ k * s := Nat.mul_le_mul_right _ h
        rw [Nat.add_mul] at hb
        rw [List.drop_append_of_le_length (by omega), List.take_append_of_le_length (by simp; omega)]
        exact Pic.mono x2 _ _ _ (p1 i h)
      · have : i = k := by omega
        subst this
        rw [List.drop_append, ← hl1]
        simp only [List.drop_length, Nat.sub_self, List.drop_zero, List.nil_append]
        rw [List.take_of_length_le (by omega)]
        exact p2

theorem reads_fields {P : Program} {w : World} {n : Nat} {cs : List Value} :
    ∀ (fs : List Field) (o : Nat) (ρ : Map) (H : Heap) (a0 : List AV), tiles P fs o cs.length = true →
      (∀ f ∈ fs, ∀ (ρ : Map) (H : Heap), Held P.globals.size ρ H w → P.globals.size ≤ H.next → Reads P w ρ H n f.type ((cs.drop f.offset).take (P.cellsOf f.type))) →
      Held P.globals.size ρ H w → P.globals.size ≤ H.next → o ≤ cs.length → VRels ρ a0 (cs.take o) →
      ∃ ρ' H' acs, Held P.globals.size ρ' H' w ∧ Ext ρ ρ' ∧ HExt H H' ∧ VRels ρ' acs cs ∧ acs.take o = a0 ∧ ∀ f ∈ fs, Pic P H' n f.type ((acs.drop f.offset).take (P.cellsOf f.type))
  | [], o, ρ, H, a0, ht, _, hi, _, ho, hv => by
    have e : o = cs.length := by simpa [tiles] using ht
    subst e
    rw [List.take_length] at hv
    exact ⟨ρ, H, a0, hi, Ext.refl ρ, HExt.refl H, hv, by rw [← hv.len, List.take_length], fun f h => by simp at h⟩
  | f :: fs, o, ρ, H, a0, ht, hf, hi, hG, ho, hv => by
    simp only [tiles, Bool.and_eq_true, beq_iff_eq] at ht
    obtain ⟨hoff, ht⟩ := ht
    have hle : ∀ (gs : List Field) (o n : Nat), tiles P gs o n = true → o ≤ n := by
      intro gs
      induction gs with
      | nil => intro o n h; simp [tiles] at h; omega
      | cons g gs ih => intro o n h; simp only [tiles, Bool.and_eq_true] at h; have := ih _ _ h.2; omega
    have hle' := hle _ _ _ ht
    obtain ⟨ρ1, H1, a1, i1, e1, x1, v1, p1⟩ := hf f (by simp) ρ H hi hG
    rw [hoff] at v1
    have hl0 : a0.length = o := by rw [hv.len]; simp; omega
    have hl1 : a1.length = P.cellsOf f.type := by rw [v1.len]; simp; omega
    have hv' : VRels ρ1 (a0 ++ a1) (cs.take (o + P.cellsOf f.type)) := by
      rw [List.take_add]
      exact (VRels.mono e1 _ _ hv).append v1
    obtain ⟨ρ2, H2, acs, i2, e2, x2, v2, t2, p2⟩ := reads_fields fs (o + P.cellsOf f.type) ρ1 H1 (a0 ++ a1) ht (fun g hg => hf g (by simp [hg])) i1 (Nat.le_trans hG x1.1) hle' hv'
    refine ⟨ρ2, H2, acs, i2, e1.trans e2, x1.trans x2, v2, ?_, ?_⟩
    · have := congrArg (List.take o) t2
      rw [List.take_take, Nat.min_eq_left (by omega), List.take_append_of_le_length (by omega), ← hl0, List.take_length] at this
      rw [← hl0]; exact this
    · intro g hg
      rcases List.mem_cons.1 hg with rfl | hg
      · have := congrArg (List.drop o) t2
        rw [← List.take_drop, List.drop_append_of_le_length (by omega), List.drop_of_length_le (by omega : a0.length ≤ o), List.nil_append] at this
        rw [hoff, this]
        exact Pic.mono x2 _ _ _ p1
      · exact p2 g hg

theorem cells?_facts {w : World} {a : Addr} {n : Nat} {cs : List Value} (h : w.cells? 0 a n = some cs) : cs.length = n ∧ ∀ i, i < n → w.cell? (a.add i) = cs[i]? := by
  simp only [World.cells?, Nat.zero_le, if_true] at h
  refine ⟨by simpa using mapM_some_length h, fun i hi => ?_⟩
  have := mapM_some_get h i i (by simp [hi])
  exact this

theorem cell?_block {w : World} {a : Addr} {v : Value} (h : w.cell? a = some v) : a.spot = none ∧ ∃ C e fr, w.heap[a.block]? = some (.cells C e fr) ∧ C[a.off]? = some v := by
  unfold World.cell? at h
  split at h
  · rename_i C e fr hh
    split at h
    · cases h
    · rename_i hs
      exact ⟨by simpa using hs, C, e, fr, hh, h⟩
  · cases h

end Go.Abs

/- Arguments read: the induction over the types. -/
namespace Go.Abs
set_option linter.unusedVariables false

section
variable {D : Type} {enc : TypeId × Value → D} {P : Program} {w : World}

theorem trod_bool {fuel : Nat} {t : TypeId} {cs : List Value} {x : DataW D × List MemPlace} (hu : P.underlying t = some .bool)
    (h : DataW.trod enc P w 0 (fun _ => true) true (fuel + 1) t cs = some x) : ∃ b, cs = [.bool b] := by
  unfold DataW.trod at h
  rw [hu] at h
  split at h <;> simp_all

theorem trod_int {fuel : Nat} {t : TypeId} {k : IntKind} {cs : List Value} {x : DataW D × List MemPlace} (hu : P.underlying t = some (.int k))
    (h : DataW.trod enc P w 0 (fun _ => true) true (fuel + 1) t cs = some x) : ∃ z, cs = [.int k z] ∧ (Lit.int k z).wf = true := by
  unfold DataW.trod at h
  rw [hu] at h
  split at h <;> simp_all

theorem trod_string {fuel : Nat} {t : TypeId} {cs : List Value} {x : DataW D × List MemPlace} (hu : P.underlying t = some .string)
    (h : DataW.trod enc P w 0 (fun _ => true) true (fuel + 1) t cs = some x) : ∃ s, cs = [.string s] ∧ s.size ≤ maxLen := by
  unfold DataW.trod at h
  rw [hu] at h
  split at h <;> simp_all

theorem trod_struct {fuel : Nat} {t : TypeId} {fs : Array Field} {cs : List Value} {x : DataW D × List MemPlace} (hu : P.underlying t = some (.struct fs))
    (h : DataW.trod enc P w 0 (fun _ => true) true (fuel + 1) t cs = some x) :
    cs.length = P.cellsOf t ∧ ∀ f ∈ fs.toList, ∃ y, DataW.trod enc P w 0 (fun _ => true) true fuel f.type ((cs.drop f.offset).take (P.cellsOf f.type)) = some y := by
  unfold DataW.trod at h
  rw [hu] at h
  split at h <;> try (simp_all; done)
  rename_i fs' heq
  injection heq with heq
  injection heq with heq
  subst heq
  split at h
  · rename_i hl
    refine ⟨hl, fun f hf => ?_⟩
    rw [Option.map_eq_some_iff] at h
    obtain ⟨xs, hxs, _⟩ := h
    obtain ⟨i, hi⟩ := List.getElem?_of_mem hf
    have := mapM_some_get hxs i f hi
    have hlt : i < xs.length := by rw [mapM_some_length hxs]; exact (List.getElem?_eq_some_iff.1 hi).1
    exact ⟨xs[i], by rw [this]; simp [hlt]⟩
  · cases h

theorem trod_array {fuel : Nat} {t e : TypeId} {m : Nat} {cs : List Value} {x : DataW D × List MemPlace} (hu : P.underlying t = some (.array m e))
    (h : DataW.trod enc P w 0 (fun _ => true) true (fuel + 1) t cs = some x) :
    cs.length = P.cellsOf t ∧ ∀ i, i < m → ∃ y, DataW.trod enc P w 0 (fun _ => true) true fuel e ((cs.drop (i * P.cellsOf e)).take (P.cellsOf e)) = some y := by
  unfold DataW.trod at h
  rw [hu] at h
  split at h <;> try (simp_all; done)
  rename_i m' e' heq
  injection heq with heq
  injection heq with h1 h2
  subst h1; subst h2
  split at h
  · rename_i hl
    refine ⟨hl, fun i hi => ?_⟩
    rw [Option.map_eq_some_iff] at h
    obtain ⟨xs, hxs, _⟩ := h
    have := mapM_some_get hxs i i (by simp [hi])
    have hlt : i < xs.length := by rw [mapM_some_length hxs]; simpa using hi
    exact ⟨xs[i], by rw [this]; simp [hlt]⟩
  · cases h

theorem trod_slice {fuel : Nat} {t e : TypeId} {cs : List Value} {x : DataW D × List MemPlace} (hu : P.underlying t = some (.slice e))
    (h : DataW.trod enc P w 0 (fun _ => true) true (fuel + 1) t cs = some x) :
    cs = [.slice none 0 0] ∨ ∃ a len cap, cs = [.slice (some a) len cap] ∧ len ≤ cap ∧ cap ≤ maxLen ∧
      ∀ i, i < cap → ∃ ds y, w.cells? 0 (a.add (i * P.cellsOf e)) (P.cellsOf e) = some ds ∧ DataW.trod enc P w 0 (fun _ => true) true fuel e ds = some y := by
  unfold DataW.trod at h
  rw [hu] at h
  split at h <;> try (simp_all; done)
  rename_i e' a len cap heq
  injection heq with heq
  injection heq with h1
  subst h1
  right
  refine ⟨a, len, cap, rfl, ?_⟩
  simp only [if_true] at h
  split at h
  · rename_i hl
    obtain ⟨_, hlc, hcm⟩ := hl
    refine ⟨hlc, hcm, fun i hi => ?_⟩
    rw [Option.bind_eq_some_iff] at h
    obtain ⟨xs, hxs, h⟩ := h
    rw [Option.map_eq_some_iff] at h
    obtain ⟨ys, hys, _⟩ := h
    by_cases hil : i < len
    · have := mapM_some_get hxs i i (by simp [hil])
      have hlt : i < xs.length := by rw [mapM_some_length hxs]; simpa using hil
      rw [List.getElem?_eq_getElem hlt, Option.bind_eq_some_iff] at this
      obtain ⟨ds, h1, h2⟩ := this
      exact ⟨ds, _, h1, h2⟩
    · have := mapM_some_get hys (i - len) (i - len) (by rw [List.getElem?_range]; omega)
      have hlt : i - len < ys.length := by rw [mapM_some_length hys]; simp; omega
      rw [List.getElem?_eq_getElem hlt, Option.bind_eq_some_iff] at this
      obtain ⟨ds, h1, h2⟩ := this
      have e : len + (i - len) = i := by omega
      rw [e] at h1
      exact ⟨ds, _, h1, h2⟩
  · cases h

theorem reads_slice {n : Nat} {t e : TypeId} {a : Addr} {len cap : Nat} (hu : P.underlying t = some (.slice e)) (hs : 0 < P.cellsOf e) (hlc : len ≤ cap) (hcm : cap ≤ maxLen)
    (hel : ∀ i, i < cap → ∃ ds, w.cells? 0 (a.add (i * P.cellsOf e)) (P.cellsOf e) = some ds ∧ ∀ (ρ : Map) (H : Heap), Held P.globals.size ρ H w → P.globals.size ≤ H.next → Reads P w ρ H n e ds)
    (ρ : Map) (H : Heap) (hi : Held P.globals.size ρ H w) (hG : P.globals.size ≤ H.next) : Reads P w ρ H (n + 1) t [.slice (some a) len cap] := by
  by_cases hc0 : cap = 0
  · subst hc0
    have hl0 : len = 0 := by omega
    subst hl0
    have hnone : ρ H.next = none := hi.free _ (Nat.le_refl _)
    refine ⟨upd ρ H.next ⟨a.block, a.off, 0⟩, H.push .dead, [.slice (some (H.next, 0)) 0 0 (some (P.cellsOf e))], hi.add hG _ _ rfl trivial, Ext.upd _ hnone, HExt.push _, ?_, ?_⟩
    · exact ⟨_, [], rfl, ⟨_, a, 0, upd_same _ _ _, rfl, Nat.le_refl _, Nat.le_refl _, .inl rfl, .inl rfl⟩, rfl⟩
    · unfold Pic
      rw [hu]
      exact .inr ⟨H.next, 0, [], rfl, by simp, by simp [maxLen], by simp, fun h => by omega, fun i h => by omega⟩
  · generalize hsz : P.cellsOf e = s at *
    have hcell : ∀ i j, i < cap → j < s → ∃ ds, w.cells? 0 (a.add (i * s)) s = some ds ∧ w.cell? ((a.add (i * s)).add j) = ds[j]? ∧ ds.length = s := by
      intro i j hic hjs
      obtain ⟨ds, hd, _⟩ := hel i hic
      obtain ⟨h1, h2⟩ := cells?_facts hd
      exact ⟨ds, hd, h2 j hjs, h1⟩
    obtain ⟨ds0, _, h00, hl0⟩ := hcell 0 0 (by omega) hs
    rw [List.getElem?_eq_getElem (by omega)] at h00
    rw [Nat.zero_mul, show (a.add 0).add 0 = a from rfl] at h00
    obtain ⟨hspot, C, ct, fr, hC, _⟩ := cell?_block h00
    obtain ⟨b, o, sp⟩ := a
    simp only [] at hspot hC
    subst hspot
    have hval : ∀ i j, i < cap → j < s → ∃ ds, w.cells? 0 (Addr.add ⟨b, o, none⟩ (i * s)) s = some ds ∧ C[o + i * s + j]? = ds[j]? ∧ ds.length = s := by
      intro i j h1 h2
      obtain ⟨ds, hd, he, hl⟩ := hcell i j h1 h2
      refine ⟨ds, hd, ?_, hl⟩
      rw [← he]
      have e1 : (Addr.add ⟨b, o, none⟩ (i * s)).add j = ⟨b, o + i * s + j, none⟩ := by
        simp only [Addr.add]
        split <;> split <;> simp_all
      rw [e1]
      simp [World.cell?, hC]
    have hsize : o + cap * s ≤ C.size := by
      obtain ⟨ds, _, he, hl⟩ := hval (cap - 1) (s - 1) (by omega) (by omega)
      rw [List.getElem?_eq_getElem (by omega)] at he
      have h1 := (Array.getElem?_eq_some_iff.1 he).1
      have h2 : (cap - 1) * s + s = cap * s := by
        have : cap = (cap - 1) + 1 := by omega
        conv => rhs; rw [this, Nat.add_mul]
        omega
      omega
    have hls : len * s ≤ cap * s := Nat.mul_le_mul_right _ hlc
    have hcsl : ((C.toList.drop o).take (len * s)).length = len * s := by simp; omega
    have hpiece : ∀ i, (i + 1) * s ≤ len * s → ∃ ds, w.cells? 0 (Addr.add ⟨b, o, none⟩ (i * s)) s = some ds ∧ (((C.toList.drop o).take (len * s)).drop (i * s)).take s = ds := by
      intro i hil
      have hi' : i < len := by
        rcases Nat.lt_or_ge i len with h | h
        · exact h
        · have : (len + 1) * s ≤ (i + 1) * s := Nat.mul_le_mul_right _ (by omega)
          rw [Nat.add_mul] at this
          omega
      obtain ⟨ds, hd, _, hdl⟩ := hval i 0 (by omega) hs
      refine ⟨ds, hd, ?_⟩
      rw [Nat.add_mul] at hil
      apply List.ext_getElem?
      intro j
      by_cases hj : j < s
      · obtain ⟨ds', hd', he, _⟩ := hval i j (by omega) hj
        have : ds' = ds := Option.some.inj (hd'.symm.trans hd)
        subst this
        rw [List.getElem?_take, if_pos hj, List.getElem?_drop, List.getElem?_take, if_pos (by omega), List.getElem?_drop, Array.getElem?_toList, ← he]
        congr 1
        omega
      · rw [List.getElem?_eq_none (by simp; omega), List.getElem?_eq_none (by omega)]
    obtain ⟨ρ1, H1, c, i1, e1, x1, v1, p1⟩ := reads_pieces (P := P) (w := w) (n := n) (e := e) (s := s) (cs := (C.toList.drop o).take (len * s))
      (fun ρ H i hle h hg => by
        rw [hcsl] at hle
        obtain ⟨ds, hd, he⟩ := hpiece i hle
        rw [he]
        have hi' : i < cap := by
          rcases Nat.lt_or_ge i cap with h | h
          · exact h
          · have : (cap + 1) * s ≤ (i + 1) * s := Nat.mul_le_mul_right _ (by omega)
            rw [Nat.add_mul] at this
            omega
        obtain ⟨ds', hd', hr⟩ := hel i hi'
        have : ds' = ds := Option.some.inj (hd'.symm.trans hd)
        subst this
        exact hr ρ H h hg) len ρ H (by omega) hi hG
    rw [List.take_of_length_le (by omega)] at v1
    have hcl : c.length = len * s := by rw [v1.len, hcsl]
    have hnone : ρ1 H1.next = none := i1.free _ (Nat.le_refl _)
    refine ⟨upd ρ1 H1.next ⟨b, o, cap * s⟩, H1.push (.cells c e false false), [.slice (some (H1.next, 0)) len len (some s)], i1.add (Nat.le_trans hG x1.1) _ _ rfl ?_, e1.trans (Ext.upd _ hnone), x1.trans (HExt.push _), ?_, ?_⟩
    · refine ⟨_, C, ct, fr, upd_same _ _ _, hC, ?_, by simp only []; omega, by simp only []; omega, fun h => by cases h⟩
      intro i av hav
      obtain ⟨v, hv, hr⟩ := VRels.get i av v1 hav
      refine ⟨v, ?_, VRel.mono (Ext.upd _ hnone) _ _ hr⟩
      have hil : i < len * s := by rw [← hcl]; exact (List.getElem?_eq_some_iff.1 hav).1
      rw [List.getElem?_take, if_pos hil, List.getElem?_drop, Array.getElem?_toList] at hv
      exact hv
    · exact ⟨_, [], rfl, ⟨_, _, cap, upd_same _ _ _, rfl, Nat.le_refl _, hlc, .inr rfl, .inr ⟨s, rfl, by simp⟩⟩, rfl⟩
    · unfold Pic
      rw [hu]
      simp only [hsz]
      refine .inr ⟨H1.next, len, c, rfl, by simp, by omega, hcl, fun _ => by rw [Heap.get_push, if_pos rfl], fun i hil => ?_⟩
      exact Pic.mono (HExt.push _) _ _ _ (p1 i hil)

theorem reads_ok : ∀ (n : Nat) (t : TypeId) (cs : List Value) (fuel : Nat) (x : DataW D × List MemPlace), readable P n t = true → DataW.trod enc P w 0 (fun _ => true) true fuel t cs = some x →
    ∀ (ρ : Map) (H : Heap), Held P.globals.size ρ H w → P.globals.size ≤ H.next → Reads P w ρ H n t cs
  | 0, t, cs, fuel, x, hr, h, ρ, H, hi, hG => by cases hr
  | n + 1, t, cs, 0, x, hr, h, ρ, H, hi, hG => by cases h
  | n + 1, t, cs, fuel + 1, x, hr, h, ρ, H, hi, hG => by
    unfold readable at hr
    split at hr
    · rename_i hu
      obtain ⟨b, rfl⟩ := trod_bool hu h
      exact ⟨ρ, H, [.bool b], hi, Ext.refl ρ, HExt.refl H, ⟨_, [], rfl, rfl, rfl⟩, by unfold Pic; rw [hu]; exact ⟨b, rfl⟩⟩
    · rename_i k hu
      obtain ⟨z, rfl, hz⟩ := trod_int hu h
      exact ⟨ρ, H, [.int k z], hi, Ext.refl ρ, HExt.refl H, ⟨_, [], rfl, rfl, rfl⟩, by unfold Pic; rw [hu]; exact ⟨z, rfl, hz⟩⟩
    · rename_i hu
      obtain ⟨s, rfl, hs⟩ := trod_string hu h
      refine ⟨ρ, H, [.str s.data.toList], hi, Ext.refl ρ, HExt.refl H, ⟨_, [], rfl, ?_, rfl⟩, by unfold Pic; rw [hu]; exact ⟨_, rfl, by simpa using hs⟩⟩
      show Value.string s = _
      simp
    · rename_i e hu
      simp only [Bool.and_eq_true, decide_eq_true_eq] at hr
      rcases trod_slice hu h with rfl | ⟨a, len, cap, rfl, hlc, hcm, hel⟩
      · exact ⟨ρ, H, [.slice none 0 0 none], hi, Ext.refl ρ, HExt.refl H, ⟨_, [], rfl, ⟨rfl, rfl, rfl⟩, rfl⟩, by unfold Pic; rw [hu]; exact .inl rfl⟩
      · refine reads_slice hu hr.1 hlc hcm (fun i hi => ?_) ρ H hi hG
        obtain ⟨ds, y, hd, hy⟩ := hel i hi
        exact ⟨ds, hd, fun ρ H h g => reads_ok n e ds fuel y hr.2 hy ρ H h g⟩
    · rename_i fs hu
      simp only [Bool.and_eq_true, List.all_eq_true] at hr
      obtain ⟨hl, hf⟩ := trod_struct hu h
      obtain ⟨ρ', H', acs, i1, e1, x1, v1, _, p1⟩ := reads_fields (P := P) (w := w) (n := n) (cs := cs) fs.toList 0 ρ H [] (by rw [hl]; exact hr.1)
        (fun f hm ρ H h g => by
          obtain ⟨y, hy⟩ := hf f hm
          exact reads_ok n _ _ fuel y (hr.2 f hm) hy ρ H h g) hi hG (Nat.zero_le _) (by simp [VRels])
      exact ⟨ρ', H', acs, i1, e1, x1, v1, by unfold Pic; rw [hu]; exact ⟨by rw [v1.len, hl], p1⟩⟩
    · rename_i m e hu
      simp only [Bool.and_eq_true, decide_eq_true_eq, beq_iff_eq] at hr
      obtain ⟨⟨hs, hm⟩, hr⟩ := hr
      obtain ⟨hl, hf⟩ := trod_array hu h
      obtain ⟨ρ', H', acs, i1, e1, x1, v1, p1⟩ := reads_pieces (P := P) (w := w) (n := n) (e := e) (s := P.cellsOf e) (cs := cs)
        (fun ρ H i hle h g => by
          have hi' : i < m := by
            rcases Nat.lt_or_ge i m with h | h
            · exact h
            · have : (m + 1) * P.cellsOf e ≤ (i + 1) * P.cellsOf e := Nat.mul_le_mul_right _ (by omega)
              rw [Nat.add_mul] at this
              omega
          obtain ⟨y, hy⟩ := hf i hi'
          exact reads_ok n _ _ fuel y hr hy ρ H h g) m ρ H (by omega) hi hG
      rw [List.take_of_length_le (by omega)] at v1
      exact ⟨ρ', H', acs, i1, e1, x1, v1, by unfold Pic; rw [hu]; exact ⟨by rw [v1.len, hl], p1⟩⟩
    · cases hr

end
end Go.Abs

/- Each operation of the model comes to what the abstract machine says: parts, places, slices, numbers, strings. -/
namespace Go.Abs
set_option linter.unusedVariables false
set_option linter.unusedSimpArgs false

section
variable {P : Program} {a : Act} {ρ : Map}

theorem und_run {t : TypeId} {d : TypeDesc} (h : P.underlying t = some d) (w : World) : (underlying t).run P w = .ok d w := by
  simp [underlying, h]

/-! ## parts -/
theorem part_run {t : TypeId} {cs : List AV} {ds : Array Value} {off : Nat} {v : AV} (h : partA P t cs off = some v) (hc : VRels ρ cs ds.toList) :
    ∃ u, (∀ w, (part t ds off).run P w = .ok u w) ∧ VRel ρ v u := by
  have hl := hc.length
  simp at hl
  unfold partA at h
  split at h
  · rename_i n hg hn
    split at h
    · rename_i hle
      injection h with h; subst h
      refine ⟨.agg (ds.extract off (off + n)), fun w => by simp [part, tagg_run hg, tsz_run hn], _, rfl, ?_⟩
      have := (hc.drop off).take n
      simpa [Array.toList_extract, List.extract_eq_take_drop] using this
    · exact absurd h (by simp)
  · rename_i hg
    obtain ⟨u, hu, r⟩ := hc.get off v h
    refine ⟨u, fun w => ?_, r⟩
    have : ds[off]? = some u := by simpa using hu
    simp [part, tagg_run hg, this]
  · exact absurd h (by simp)

theorem field_ok {t : TypeId} {fields : Array Field} {cs : List AV} {f : Nat} {fd : Field} {v : AV} {u : Value} (hd : P.underlying t = some (.struct fields)) (hf : fields[f]? = some fd)
    (h : partA P fd.type cs fd.offset = some v) (hv : VRel ρ (.agg cs) u) : ∃ r, (∀ w, (Instr.field t u f).run P w = .ok r w) ∧ VRel ρ v r := by
  obtain ⟨ds, rfl, hc⟩ := hv
  obtain ⟨r, hr, hrel⟩ := part_run h hc
  exact ⟨r, fun w => by simp [Instr.field, und_run hd, hf, asAgg, hr], hrel⟩

/-! ## places -/
theorem fieldAddr_ok {s : TypeId} {fields : Array Field} {f : Nat} {fd : Field} {b o : Nat} {u : Value} (hd : P.underlying s = some (.struct fields)) (hf : fields[f]? = some fd)
    (hz : ¬ (tsz P fd.type).getD 0 = 0) (hv : VRel ρ (.ptr (some (b, o))) u) : ∃ r, (∀ w, (Instr.fieldAt s u f).run P w = .ok r w) ∧ VRel ρ (.ptr (some (b, o + fd.offset))) r := by
  obtain ⟨p, hp, rfl⟩ := hv
  cases hn : tsz P fd.type with
  | none => rw [hn] at hz; exact absurd rfl hz
  | some n =>
    rw [hn] at hz
    refine ⟨.pointer (some ⟨p.blk, p.off + (o + fd.offset), none⟩), fun w => ?_, p, hp, rfl⟩
    have hz' : ¬ n = 0 := hz
    simp [Instr.fieldAt, und_run hd, hf, Instr.sureAddr, fieldPlace, tsz_run hn, hz', addr_add, Nat.add_assoc]

theorem indexAddr_ok {t : TypeId} {x ix v : AV} {ux ui : Value} (h : indexAddrSem P t x ix = some v) (hx : VRel ρ x ux) (hi : VRel ρ ix ui) :
    ∃ r, (∀ w, (Instr.indexAt t ux ui).run P w = .ok r w) ∧ VRel ρ v r := by
  unfold indexAddrSem at h
  split at h
  · rename_i len elem b o k i hd
    cases hn : tsz P elem with
    | none => simp [hn] at h
    | some size =>
      simp only [hn] at h
      split at h
      · rename_i hc
        injection h with h; subst h
        obtain ⟨p, hp, rfl⟩ := hx
        cases hi
        refine ⟨.pointer (some ⟨p.blk, p.off + (o + i.toNat * size), none⟩), fun w => ?_, p, hp, rfl⟩
        simp [Instr.indexAt, asIntOf, und_run hd, Instr.sureAddr, hc, tsz_run hn, addr_add, Nat.add_assoc]
      · exact absurd h (by simp)
  · rename_i elem b o len c sl k i hd
    cases hn : tsz P elem with
    | none => simp [hn] at h
    | some size =>
      simp only [hn] at h
      split at h
      · rename_i hc
        injection h with h; subst h
        obtain ⟨p, y, c', hp, rfl, h1, h2, h3, _⟩ := hx
        cases hi
        have hy : y = ⟨p.blk, p.off + o, none⟩ := by
          rcases h3 with h3 | h3
          · omega
          · exact h3
        subst hy
        refine ⟨.pointer (some ⟨p.blk, p.off + (o + i.toNat * size), none⟩), fun w => ?_, p, hp, rfl⟩
        simp [Instr.indexAt, asIntOf, und_run hd, hc, tsz_run hn, addr_add, Nat.add_assoc]
      · exact absurd h (by simp)
  · exact absurd h (by simp)

theorem index_ok {t : TypeId} {x ix v : AV} {ux ui : Value} (h : indexSem P t x ix = some v) (hx : VRel ρ x ux) (hi : VRel ρ ix ui) :
    ∃ r, (∀ w, (Instr.index t ux ui).run P w = .ok r w) ∧ VRel ρ v r := by
  unfold indexSem at h
  split at h
  · rename_i len elem cs k i hd
    cases hn : tsz P elem with
    | none => simp [hn] at h
    | some size =>
      simp only [hn] at h
      split at h
      · rename_i hc
        obtain ⟨ds, rfl, hcs⟩ := hx
        cases hi
        obtain ⟨r, hr, hrel⟩ := part_run h hcs
        exact ⟨r, fun w => by simp [Instr.index, asIntOf, und_run hd, hc, tsz_run hn, hr], hrel⟩
      · exact absurd h (by simp)
  · rename_i s k i hd
    split at h
    · rename_i h0
      cases hb : s[i.toNat]? with
      | none => simp [hb] at h
      | some c =>
        simp only [hb, Option.some.injEq] at h
        subst h
        cases hx; cases hi
        refine ⟨.int .u8 c.toNat, fun w => ?_, rfl⟩
        have : (⟨s.toArray⟩ : ByteArray)[i.toNat]? = some c := by
          obtain ⟨hlt, he⟩ := List.getElem?_eq_some_iff.1 hb
          rw [getElem?_pos (⟨s.toArray⟩ : ByteArray) i.toNat (by simpa [ByteArray.size] using hlt)]
          congr 1
        simp [Instr.index, asIntOf, und_run hd, h0, this]
    · exact absurd h (by simp)
  · exact absurd h (by simp)

/-! ## slices of what there is -/
theorem bound_ok {x : AV} {y n : Nat} {u : Value} {code : BoundsCode} (h : boundA x y = some n) (hx : VRel ρ x u) : n ≤ y ∧ ∀ z, y ≤ z → ∀ w, (Instr.sliceBound u z code).run P w = .ok n w := by
  unfold boundA at h
  split at h
  · rename_i k i
    split at h
    · rename_i hc
      injection h with h; subst h
      cases hx
      refine ⟨by omega, fun z hz w => ?_⟩
      have : 0 ≤ i ∧ i ≤ (z : Int) := by omega
      simp [Instr.sliceBound, asIntOf, this]
    · exact absurd h (by simp)
  · exact absurd h (by simp)

/-- An optional operand and its value. -/
def ORelV (ρ : Map) : Option AV → Option Value → Prop
  | none, none => True
  | some a, some v => VRel ρ a v
  | _, _ => False

theorem evOpt_rel {T : List AV} (hf : Frel ρ T a) (hg : Glob P ρ) {x : Option Operand} {v : Option AV} (h : evOpt P T x = some v) : ORelV ρ v (x.map a.eval) := by
  cases x with
  | none => simp only [evOpt, Option.some.injEq] at h; subst h; exact True.intro
  | some x =>
    simp only [evOpt] at h
    cases hx : ev P T x with
    | none => simp [hx] at h
    | some y => simp [hx] at h; subst h; exact ev_rel hf hg hx

/-- The bounds of a slice expression; the world's capacity may be greater, where none is named. -/
theorem bounds_ok {len cap cap' l h m : Nat} {lo hi mx : Option AV} {lo' hi' mx' : Option Value} {isSlice : Bool} (hb : boundsA len cap lo hi mx = some (l, h, m))
    (hl : ORelV ρ lo lo') (hh : ORelV ρ hi hi') (hm : ORelV ρ mx mx') (hc : cap ≤ cap') (hlen : len ≤ cap) :
    l ≤ h ∧ h ≤ m ∧ m ≤ cap ∧ ∀ w, (Instr.sliceBounds isSlice len cap' lo' hi' mx').run P w = .ok (l, h, if mx.isSome then m else cap') w := by
  unfold boundsA at hb
  cases mx with
  | none =>
    cases mx' with
    | some _ => exact hm.elim
    | none =>
      simp only [] at hb
      cases hi with
      | none =>
        cases hi' with
        | some _ => exact hh.elim
        | none =>
          simp only [] at hb
          cases lo with
          | none =>
            cases lo' with
            | some _ => exact hl.elim
            | none =>
              simp only [Option.some.injEq, Prod.mk.injEq] at hb
              obtain ⟨rfl, rfl, rfl⟩ := hb
              exact ⟨Nat.zero_le _, hlen, Nat.le_refl _, fun w => by simp [Instr.sliceBounds]⟩
          | some x =>
            cases lo' with
            | none => exact hl.elim
            | some u =>
              simp only [] at hb
              cases hx : boundA x len with
              | none => simp [hx] at hb
              | some n =>
                simp only [hx, Option.some.injEq, Prod.mk.injEq] at hb
                obtain ⟨rfl, rfl, rfl⟩ := hb
                have hr := bound_ok (P := P) (code := .sliceB) hx hl
                exact ⟨hr.1, hlen, Nat.le_refl _, fun w => by simp [Instr.sliceBounds, hr.2 len (Nat.le_refl _)]⟩
      | some y =>
        cases hi' with
        | none => exact hh.elim
        | some uy =>
          simp only [] at hb
          cases hy : boundA y cap with
          | none => simp [hy] at hb
          | some n =>
            simp only [hy] at hb
            have hr := fun code => bound_ok (P := P) (code := code) hy hh
            cases lo with
            | none =>
              cases lo' with
              | some _ => exact hl.elim
              | none =>
                simp only [Option.some.injEq, Prod.mk.injEq] at hb
                obtain ⟨rfl, rfl, rfl⟩ := hb
                exact ⟨Nat.zero_le _, (hr .sliceB).1, Nat.le_refl _, fun w => by simp [Instr.sliceBounds, (hr _).2 cap' hc]⟩
            | some x =>
              cases lo' with
              | none => exact hl.elim
              | some u =>
                simp only [] at hb
                cases hx : boundA x n with
                | none => simp [hx] at hb
                | some k =>
                  simp only [hx, Option.some.injEq, Prod.mk.injEq] at hb
                  obtain ⟨rfl, rfl, rfl⟩ := hb
                  have hr2 := bound_ok (P := P) (code := .sliceB) hx hl
                  exact ⟨hr2.1, (hr .sliceB).1, Nat.le_refl _, fun w => by simp [Instr.sliceBounds, (hr _).2 cap' hc, hr2.2 n (Nat.le_refl _)]⟩
  | some z =>
    cases mx' with
    | none => exact hm.elim
    | some uz =>
      simp only [] at hb
      cases hz : boundA z cap with
      | none => simp [hz] at hb
      | some mm =>
        simp only [hz] at hb
        have hr0 := fun code => bound_ok (P := P) (code := code) hz hm
        cases hi with
        | none => simp at hb
        | some y =>
          cases hi' with
          | none => exact hh.elim
          | some uy =>
            simp only [] at hb
            cases hy : boundA y mm with
            | none => simp [hy] at hb
            | some n =>
              simp only [hy] at hb
              have hr := fun code => bound_ok (P := P) (code := code) hy hh
              cases lo with
              | none =>
                cases lo' with
                | some _ => exact hl.elim
                | none =>
                  simp only [Option.some.injEq, Prod.mk.injEq] at hb
                  obtain ⟨rfl, rfl, rfl⟩ := hb
                  exact ⟨Nat.zero_le _, (hr .sliceB).1, (hr0 .sliceB).1, fun w => by simp [Instr.sliceBounds, (hr0 _).2 cap' hc, (hr _).2 mm (Nat.le_refl _)]⟩
              | some x =>
                cases lo' with
                | none => exact hl.elim
                | some u =>
                  simp only [] at hb
                  cases hx : boundA x n with
                  | none => simp [hx] at hb
                  | some k =>
                    simp only [hx, Option.some.injEq, Prod.mk.injEq] at hb
                    obtain ⟨rfl, rfl, rfl⟩ := hb
                    have hr2 := fun code => bound_ok (P := P) (code := code) hx hl
                    exact ⟨(hr2 .sliceB).1, (hr .sliceB).1, (hr0 .sliceB).1, fun w => by simp [Instr.sliceBounds, (hr0 _).2 cap' hc, (hr _).2 mm (Nat.le_refl _), (hr2 _).2 n (Nat.le_refl _)]⟩

theorem slice_ok {t : TypeId} {x v : AV} {lo hi mx : Option AV} {ux : Value} {lo' hi' mx' : Option Value} (h : sliceSem P t x lo hi mx = some v) (hx : VRel ρ x ux)
    (hl : ORelV ρ lo lo') (hh : ORelV ρ hi hi') (hm : ORelV ρ mx mx') : ∃ r, (∀ w, (Instr.sliceAt t ux lo' hi' mx').run P w = .ok r w) ∧ VRel ρ v r := by
  unfold sliceSem at h
  split at h
  · rename_i n elem b o hd
    split at h
    · rename_i l hh2 m size hb hn
      injection h with h; subst h
      obtain ⟨p, hp, rfl⟩ := hx
      obtain ⟨h1, h2, h3, hrun⟩ := bounds_ok (P := P) (cap' := n) (isSlice := false) hb hl hh hm (Nat.le_refl _) (Nat.le_refl _)
      have hmm : (if mx.isSome then m else n) = m ∨ (mx.isSome = false ∧ m = n) := by
        cases mx with
        | some _ => exact .inl rfl
        | none =>
          right
          refine ⟨rfl, ?_⟩
          unfold boundsA at hb
          simp only [] at hb
          (repeat' split at hb) <;> simp_all
      have hm2 : (if mx.isSome then m else n) = m := by
        rcases hmm with h | ⟨h, rfl⟩
        · exact h
        · simp [h]
      rw [hm2] at hrun
      refine ⟨.slice (some (if m = l then ⟨p.blk, p.off + o, none⟩ else ⟨p.blk, p.off + o + l * size, none⟩)) (hh2 - l) (m - l), fun w => ?_, p, _, m - l, hp, rfl, by omega, Nat.le_refl _, ?_, .inl rfl⟩
      · simp [Instr.sliceAt, und_run hd, Instr.sureAddr, hrun, tsz_run hn, addr_add]
      · by_cases e : m = l
        · left; omega
        · right; simp [e, Nat.add_assoc]
    · exact absurd h (by simp)
  · rename_i s hd
    cases mx with
    | some _ => simp at h
    | none =>
      cases mx' with
      | some _ => exact hm.elim
      | none =>
        cases hb : boundsA s.length s.length lo hi none with
        | none => simp [hb] at h
        | some q =>
          obtain ⟨l, hh2, m⟩ := q
          simp only [hb, Option.some.injEq] at h
          subst h
          cases hx
          obtain ⟨h1, h2, h3, hrun⟩ := bounds_ok (P := P) (cap' := s.length) (isSlice := false) hb hl hh hm (Nat.le_refl _) (Nat.le_refl _)
          refine ⟨.string ((⟨s.toArray⟩ : ByteArray).extract l hh2), fun w => ?_, ?_⟩
          · have hs : (⟨s.toArray⟩ : ByteArray).size = s.length := by simp [ByteArray.size]
            simp only [Instr.sliceAt, Sem.run_bind, und_run hd, Result.andThen_ok, Instr.slice, Option.isSome_none, Bool.false_eq_true, if_false, hs, hrun, Sem.run_pure]
          · show Value.string _ = Value.string _
            congr 1
            apply ByteArray.ext
            simp only [ByteArray.data_extract]
            apply Array.ext'
            simp [Array.toList_extract, List.extract_eq_take_drop, List.drop_take]
  · rename_i elem sa len cap sl hd
    split at h
    · rename_i l hh2 m size hb hn
      cases sa with
      | none =>
        simp only [Option.some.injEq] at h
        subst h
        obtain ⟨h1, h2, rfl⟩ := hx
        subst h1; subst h2
        obtain ⟨h1, h2, h3, hrun⟩ := bounds_ok (P := P) (cap' := 0) (isSlice := true) hb hl hh hm (Nat.le_refl _) (Nat.le_refl _)
        refine ⟨.slice none 0 0, fun w => ?_, rfl, rfl, rfl⟩
        have e1 : m = 0 := by omega
        have e2 : hh2 = 0 := by omega
        have e3 : l = 0 := by omega
        subst e1; subst e2; subst e3
        have hz : (if mx.isSome then 0 else 0) = 0 := by split <;> rfl
        rw [hz] at hrun
        simp [Instr.sliceAt, und_run hd, Instr.slice, hrun, tsz_run hn]
      | some q =>
        obtain ⟨b, o⟩ := q
        simp only [] at h
        split at h
        · rename_i hsl
          injection h with h; subst h
          obtain ⟨p, y, c', hp, rfl, g1, g2, g3, g4⟩ := hx
          obtain ⟨h1, h2, h3, hrun⟩ := bounds_ok (P := P) (cap' := c') (isSlice := true) hb hl hh hm g2 g1
          generalize hmm : (if mx.isSome then m else c') = m' at hrun
          refine ⟨.slice (some (if m' = l then y else y.add (l * size))) (hh2 - l) (m' - l), fun w => ?_, p, _, m' - l, hp, rfl, by omega, ?_, ?_, ?_⟩
          · simp [Instr.sliceAt, und_run hd, Instr.slice, hrun, tsz_run hn]
            split <;> rfl
          · cases mx with
            | some _ => simp at hmm; omega
            | none => simp at hmm; omega
          · by_cases e : m' = l
            · left; omega
            · right
              rw [if_neg e]
              have hy : y = ⟨p.blk, p.off + o, none⟩ := by
                rcases g3 with g3 | g3
                · exfalso; cases mx with
                  | some _ => simp at hmm; omega
                  | none => simp at hmm; omega
                · exact g3
              rw [hy, addr_add, Nat.add_assoc]
          · cases mx with
            | some _ => simp at hmm; left; omega
            | none =>
              simp at hmm
              subst hmm
              rcases g4 with g4 | ⟨s, hs, g4⟩
              · left
                have : m = cap := by
                  unfold boundsA at hb
                  simp only [] at hb
                  (repeat' split at hb) <;> simp_all
                omega
              · right
                refine ⟨s, by simpa using hs, ?_⟩
                rw [hs] at hsl
                simp at hsl
                subst hsl
                have hle : l ≤ c' := by omega
                have : l * s + (c' - l) * s = c' * s := by rw [← Nat.add_mul]; congr 1; omega
                simp only []
                omega
        · exact absurd h (by simp)
    · exact absurd h (by simp)
  · exact absurd h (by simp)

end
end Go.Abs

/- Each operation of the model comes to what the abstract machine says: operators, equality, conversions. -/
namespace Go.Abs
set_option linter.unusedVariables false
set_option linter.unusedSimpArgs false

section
variable {P : Program} {a : Act} {ρ : Map}

theorem str_toList (s : List UInt8) : (⟨s.toArray⟩ : ByteArray).toList = s := by simp [ByteArray.toList_eq]
theorem str_size (s : List UInt8) : (⟨s.toArray⟩ : ByteArray).size = s.length := by simp [ByteArray.size]
theorem str_append (s t : List UInt8) : (⟨s.toArray⟩ : ByteArray) ++ ⟨t.toArray⟩ = ⟨(s ++ t).toArray⟩ := by
  apply ByteArray.ext
  simp

/-! ## numbers, strings -/
theorem intOp_ok {op : BinOp} {t : TypeId} {k : IntKind} {x y : Int} {v : AV} (hop : op ≠ .shl ∧ op ≠ .shr) (h : intOp op k x y = some v) :
    ∃ u, (∀ w, (binOp op t (.int k x) (.int k y)).run P w = .ok u w) ∧ VRel ρ v u := by
  obtain ⟨h1, h2⟩ := hop
  cases op <;> simp only [intOp] at h <;> first
    | (obtain rfl := Option.some.inj h; exact ⟨_, fun w => by simp [binOp, Op.intArith, Op.intBits, Op.intCmp]; rfl, rfl⟩)
    | (obtain rfl := Option.some.inj h; exact ⟨_, fun w => by simp [binOp, Op.intArith, Op.intBits, Op.intCmp], rfl⟩)
    | (split at h
       · cases h
       · rename_i hy
         obtain rfl := Option.some.inj h
         exact ⟨_, fun w => (by simp [binOp, Op.intDiv, hy]; try rfl), rfl⟩)
    | exact absurd rfl h1
    | exact absurd rfl h2
    | cases h

theorem shiftOp_ok {op : BinOp} {t : TypeId} {k k' : IntKind} {x y : Int} {v : AV} (h : shiftOp op k x y = some v) (hop : op = .shl ∨ op = .shr) :
    ∃ u, (∀ w, (binOp op t (.int k x) (.int k' y)).run P w = .ok u w) ∧ VRel ρ v u := by
  unfold shiftOp at h
  split at h
  · exact absurd h (by simp)
  · rename_i hy
    rcases hop with rfl | rfl
    · simp only [Option.some.injEq] at h
      subst h
      exact ⟨_, fun w => by simp only [binOp, Op.shift, hy, if_false]; rfl, rfl⟩
    · simp only [Option.some.injEq] at h
      subst h
      exact ⟨_, fun w => by simp only [binOp, Op.shift, hy, if_false]; rfl, rfl⟩

theorem strOp_ok {op : BinOp} {t : TypeId} {x y : List UInt8} {v : AV} (h : strOp op x y = some v) :
    ∃ u, (∀ w, (binOp op t (.string ⟨x.toArray⟩) (.string ⟨y.toArray⟩)).run P w = .ok u w) ∧ VRel ρ v u := by
  cases op <;> simp only [strOp] at h <;> first
    | (obtain rfl := Option.some.inj h; exact ⟨_, fun w => by simp only [binOp, Op.stringOp, str_toList]; rfl, rfl⟩)
    | (split at h
       · rename_i hle
         obtain rfl := Option.some.inj h
         refine ⟨.string (⟨x.toArray⟩ ++ ⟨y.toArray⟩), fun w => ?_, by rw [str_append]; rfl⟩
         have hn : ¬ (((⟨x.toArray⟩ : ByteArray).size + (⟨y.toArray⟩ : ByteArray).size : Nat) : Int) > IntKind.i64.max := by
           rw [str_size, str_size]
           have : IntKind.i64.max = 9223372036854775807 := by decide
           omega
         simp only [binOp, Op.stringOp]
         rw [if_neg hn]
         rfl
       · cases h)
    | cases h

/-! ## equality -/
theorem eqFields_ok {d : Nat} {eq : TypeId → AV → AV → Option Bool} (ih : ∀ t x y r ux uy, eq t x y = some r → VRel ρ x ux → VRel ρ y uy → ∀ w, (Op.equalIn d t ux uy).run P w = .ok r w)
    {xs ys : List AV} {us vs : Array Value} (hx : VRels ρ xs us.toList) (hy : VRels ρ ys vs.toList) : ∀ {fs : List Field} {r : Bool}, eqFieldsA eq P xs ys fs = some r → ∀ w, (Op.eqFields d us vs fs).run P w = .ok r w
  | [], r, h, w => by simp only [eqFieldsA, Option.some.injEq] at h; subst h; simp [Op.eqFields]
  | f :: fs, r, h, w => by
    simp only [eqFieldsA] at h
    by_cases hn : f.name = "_"
    · simp only [hn, if_true] at h
      simp only [Op.eqFields, hn, ne_eq, not_true_eq_false, if_false]
      exact eqFields_ok ih hx hy h w
    · simp only [hn, if_false] at h
      cases h1 : partA P f.type xs f.offset with
      | none => simp [h1] at h
      | some x =>
        cases h2 : partA P f.type ys f.offset with
        | none => simp [h1, h2] at h
        | some y =>
          simp only [h1, h2] at h
          obtain ⟨ux, rx, hrx⟩ := part_run h1 hx
          obtain ⟨uy, ry, hry⟩ := part_run h2 hy
          cases h3 : eq f.type x y with
          | none => simp [h3] at h
          | some b =>
            simp only [h3] at h
            have h4 := ih _ _ _ _ _ _ h3 hrx hry
            simp only [Op.eqFields, hn, ne_eq, not_false_eq_true, if_true, Sem.run_bind, rx, ry, h4, Result.andThen_ok]
            cases b with
            | true =>
              simp only [Bool.not_true, Bool.false_eq_true, if_false]
              exact eqFields_ok ih hx hy (by simpa using h) w
            | false =>
              simp only [Option.some.injEq] at h
              subst h
              simp

theorem eqItems_ok {d : Nat} {elem : TypeId} {eq : AV → AV → Option Bool} (ih : ∀ x y r ux uy, eq x y = some r → VRel ρ x ux → VRel ρ y uy → ∀ w, (Op.equalIn d elem ux uy).run P w = .ok r w)
    {n : Nat} {xs ys : List AV} {us vs : Array Value} (hx : VRels ρ xs us.toList) (hy : VRels ρ ys vs.toList) : ∀ {is : List Nat} {r : Bool}, eqItemsA eq P elem n xs ys is = some r → ∀ w, (Op.eqItems d elem n us vs is).run P w = .ok r w
  | [], r, h, w => by simp only [eqItemsA, Option.some.injEq] at h; subst h; simp [Op.eqItems]
  | i :: is, r, h, w => by
    simp only [eqItemsA] at h
    cases h1 : partA P elem xs (i * n) with
    | none => simp [h1] at h
    | some x =>
      cases h2 : partA P elem ys (i * n) with
      | none => simp [h1, h2] at h
      | some y =>
        simp only [h1, h2] at h
        obtain ⟨ux, rx, hrx⟩ := part_run h1 hx
        obtain ⟨uy, ry, hry⟩ := part_run h2 hy
        cases h3 : eq x y with
        | none => simp [h3] at h
        | some b =>
          simp only [h3] at h
          have h4 := ih _ _ _ _ _ h3 hrx hry
          simp only [Op.eqItems, Sem.run_bind, rx, ry, h4, Result.andThen_ok]
          cases b with
          | true =>
            simp only [Bool.not_true, Bool.false_eq_true, if_false]
            exact eqItems_ok ih hx hy (by simpa using h) w
          | false =>
            simp only [Option.some.injEq] at h
            subst h
            simp

theorem bytes_beq (s t : List UInt8) : ((⟨s.toArray⟩ : ByteArray) == ⟨t.toArray⟩) = (s == t) := by
  rw [beq_toListBytes, str_toList, str_toList]

theorem eqA_ok : ∀ (d D : Nat) (t : TypeId) (x y : AV) (r : Bool) (ux uy : Value), d ≤ D → eqA P d t x y = some r → VRel ρ x ux → VRel ρ y uy → ∀ w, (Op.equalIn D t ux uy).run P w = .ok r w
  | 0, D, t, x, y, r, ux, uy, hD, h, hx, hy, w => by simp [eqA] at h
  | d + 1, 0, t, x, y, r, ux, uy, hD, h, hx, hy, w => by omega
  | d + 1, D + 1, t, x, y, r, ux, uy, hD, h, hx, hy, w => by
    simp only [eqA] at h
    split at h
    · rename_i p q hd
      injection h with h; subst h
      cases hx; cases hy
      exact run_equalIn_bool' w D t p q hd
    · rename_i k p k' q kk hd
      split at h
      · rename_i e
        injection h with h; subst h
        cases hx; cases hy; subst e
        exact run_equalIn_int w D t _ _ _ _ hd
      · exact absurd h (by simp)
    · rename_i p q hd
      injection h with h; subst h
      cases hx; cases hy
      rw [run_equalIn_string w D t _ _ hd, str_toList, str_toList]
    · rename_i fields xs ys hd
      split at h
      · exact absurd h (by simp)
      · rename_i hst
        obtain ⟨us, rfl, hu⟩ := hx
        obtain ⟨vs, rfl, hv⟩ := hy
        have hf : P.fieldsOf t = fields := by simp [Program.fieldsOf, hd]
        rw [run_equalIn_struct w D t us vs (by rw [hf]; exact hd) (by simpa using hst), hf]
        exact eqFields_ok (fun t x y r ux uy h hx hy w => eqA_ok d D t x y r ux uy (by omega) h hx hy w) hu hv h w
    · rename_i len elem xs ys hd
      cases hn : tsz P elem with
      | none => simp [hn] at h
      | some n =>
        simp only [hn] at h
        obtain ⟨us, rfl, hu⟩ := hx
        obtain ⟨vs, rfl, hv⟩ := hy
        cases hi : P.info? elem with
        | none => simp [tsz, hi] at hn
        | some i =>
          have hc : P.cellsOf elem = n := by simp [tsz, hi] at hn; simp [Program.cellsOf, hi, hn]
          rw [run_equalIn_array w D us vs hd hi, hc]
          exact eqItems_ok (fun x y r ux uy h hx hy w => eqA_ok d D elem x y r ux uy (by omega) h hx hy w) hu hv h w
    · exact absurd h (by simp)

/-- The guard of '==' lets by what the abstract machine compares. -/
theorem eqGuard_ok {op : BinOp} {t : TypeId} {x y : Operand} {u v : Value} (h2 : (∃ us vs, u = .agg us ∧ v = .agg vs) → P.eqGuardType P.depth t = false)
    (h3 : ¬ (u = .nilIface ∧ v = .nilIface)) (w : World) : (eqGuard op t x y u v).run P w = .ok () w := by
  by_cases ha : ∃ us vs, u = .agg us ∧ v = .agg vs
  · obtain ⟨us, vs, rfl, rfl⟩ := ha
    exact run_eqGuard_agg w op t x y us vs (h2 ⟨us, vs, rfl, rfl⟩)
  · by_cases hop : op = .eql ∨ op = .neq
    · rcases hop with rfl | rfl
      · cases u <;> cases v <;> first
          | rfl
          | exact absurd ⟨rfl, rfl⟩ h3
          | exact absurd ⟨_, _, rfl, rfl⟩ ha
      · cases u <;> cases v <;> first
          | rfl
          | exact absurd ⟨rfl, rfl⟩ h3
          | exact absurd ⟨_, _, rfl, rfl⟩ ha
    · cases op <;> first
        | rfl
        | exact absurd (.inl rfl) hop
        | exact absurd (.inr rfl) hop

theorem equal_succ (t : TypeId) (x y : Value) : Op.equal t x y = Op.equalIn (9999 + 1) t x y := rfl

/-- Two pointers into blocks apart. -/
theorem sameAddr_apart {G : Nat} {H : Heap} {w : World} (hs : Sim G ρ H w) {x y : Nat × Nat} {p q : Place} (hp : ρ x.1 = some p) (hq : ρ y.1 = some q) (hne : x.1 ≠ y.1) {o1 o2 : AObj}
    (h1 : H.get x.1 = some o1) (h2 : H.get y.1 = some o2) {r : AV} (hr : eqRead x y [o1, o2] = some r) :
    (sameAddr ⟨p.blk, p.off + x.2, none⟩ ⟨q.blk, q.off + y.2, none⟩).run P w = .ok false w := by
  unfold eqRead at hr
  split at hr
  · rename_i c e d f heq
    simp only [List.cons.injEq, and_true] at heq
    obtain ⟨rfl, rfl⟩ := heq
    split at hr
    · rename_i hb
      simp only [Bool.and_eq_true, decide_eq_true_eq] at hb
      have hap := hs.apart x.1 y.1 _ _ p q h1 h2 hne rfl rfl hp hq
      obtain ⟨p1, C, e1, fr, hp1, hh, hc, hl, ht, hown⟩ := hs.obj _ _ h1
      rw [hp] at hp1; injection hp1 with hp1; subst hp1
      obtain ⟨_, hfr⟩ := hown rfl
      have hfr : fr = (0, 0) := by rcases hfr with h | ⟨h, _⟩; exact h; exact absurd h (by simp)
      subst hfr
      obtain ⟨q1, D, e2, fr2, hq1, hh2, hc2, hl2, ht2, hown2⟩ := hs.obj _ _ h2
      rw [hq] at hq1; injection hq1 with hq1; subst hq1
      obtain ⟨_, hfr2⟩ := hown2 rfl
      have hfr2 : fr2 = (0, 0) := by rcases hfr2 with h | ⟨h, _⟩; exact h; exact absurd h (by simp)
      subst hfr2
      have hbn : (p.blk == q.blk) = false := by simpa using hap
      simp only [sameAddr]
      rw [if_neg (by simp [hbn])]
      simp [noView, viewAt, mayBeOne, stringish, World.frozen?, World.shape?, hh, hh2]
    · exact absurd hr (by simp)
  · exact absurd hr (by simp)

theorem run_equal_pointer {t e : TypeId} {x y : Addr} (hd : P.underlying t = some (.pointer e)) (hz : ¬ (tsz P e).getD 0 = 0) (w : World) :
    (Op.equal t (.pointer (some x)) (.pointer (some y))).run P w = (sameAddr x y).run P w := by
  cases hn : tsz P e with
  | none => rw [hn] at hz; exact absurd rfl hz
  | some n =>
    rw [hn] at hz
    have hz' : ¬ n = 0 := hz
    rw [equal_succ]
    generalize 9999 = d
    simp only [Op.equalIn, Sem.run_bind, und_run hd, Result.andThen_ok, tsz_run hn]
    rw [if_pos hz']

theorem bool_neg (r neg : Bool) : (if neg then !r else r) = (r != neg) := by cases r <;> cases neg <;> rfl

/-- '==' or '!=': the operator, by what 'equal' says. -/
theorem run_binOp_eq {neg : Bool} {t : TypeId} {u v : Value} (hcase : (∀ k m k' n, ¬ (u = .int k m ∧ v = .int k' n)) ∧ (∀ s s', ¬ (u = .string s ∧ v = .string s')) ∧
      (∀ k m k' n, ¬ (u = .float k m ∧ v = .float k' n)) ∧ (∀ k m k' n i j, ¬ (u = .complex k m i ∧ v = .complex k' n j))) (w : World) :
    (binOp (if neg then .neq else .eql) t u v).run P w = ((Op.equal t u v).run P w).andThen fun r w' => .ok (.bool (r != neg)) w' := by
  obtain ⟨h1, h2, h3, h4⟩ := hcase
  cases neg
  · simp only [Bool.false_eq_true, if_false]
    cases u <;> cases v <;> first
      | exact absurd ⟨rfl, rfl⟩ (h1 _ _ _ _)
      | exact absurd ⟨rfl, rfl⟩ (h2 _ _)
      | exact absurd ⟨rfl, rfl⟩ (h3 _ _ _ _)
      | exact absurd ⟨rfl, rfl⟩ (h4 _ _ _ _ _ _)
      | (simp only [binOp, Sem.run_bind]; congr 1; funext r w'; cases r <;> rfl)
  · simp only [if_true]
    cases u <;> cases v <;> first
      | exact absurd ⟨rfl, rfl⟩ (h1 _ _ _ _)
      | exact absurd ⟨rfl, rfl⟩ (h2 _ _)
      | exact absurd ⟨rfl, rfl⟩ (h3 _ _ _ _)
      | exact absurd ⟨rfl, rfl⟩ (h4 _ _ _ _ _ _)
      | (simp only [binOp, Sem.run_bind]; congr 1; funext r w'; cases r <;> rfl)

end
end Go.Abs

/- Each operation of the model comes to what the abstract machine says: '==', the operators, conversions, maps, make. -/
namespace Go.Abs
set_option linter.unusedVariables false
set_option linter.unusedSimpArgs false

section
variable {P : Program} {a : Act} {ρ : Map}

theorem semOk_read {bs : List Nat} {k : List AObj → Option AV} {n : Sem Next}
    (h : ∀ (H : Heap) (w : World) (os : List AObj) (v : AV), Sim P.globals.size ρ H w → mapOpt H.get bs = some os → k os = some v → ∃ u, n.run P w = .ok (.value u) w ∧ VRel ρ v u) : SemOk P a (.read bs k) n ρ := by
  intro H w v H' hs hr _ hwf
  simp only [Sm.run] at hr
  cases hb : mapOpt H.get bs with
  | none => simp [hb] at hr
  | some os =>
    simp only [hb] at hr
    cases hk : k os with
    | none => simp [hk] at hr
    | some x =>
      simp only [hk, Option.some.injEq, Prod.mk.injEq] at hr
      obtain ⟨rfl, rfl⟩ := hr
      obtain ⟨u, hu, hv⟩ := h H w os x hs hb hk
      exact does_pure hs hu hv

theorem mapOpt_one {H : Heap} {b : Nat} {os : List AObj} (h : mapOpt H.get [b] = some os) : ∃ o, H.get b = some o ∧ os = [o] := by
  simp only [mapOpt] at h
  cases hb : H.get b with
  | none => simp [hb] at h
  | some o => simp [hb] at h; exact ⟨o, rfl, h.symm⟩

theorem mapOpt_two {H : Heap} {b c : Nat} {os : List AObj} (h : mapOpt H.get [b, c] = some os) : ∃ o o', H.get b = some o ∧ H.get c = some o' ∧ os = [o, o'] := by
  simp only [mapOpt] at h
  cases hb : H.get b with
  | none => simp [hb] at h
  | some o =>
    cases hc : H.get c with
    | none => simp [hb, hc] at h
    | some o' => simp [hb, hc] at h; exact ⟨o, o', rfl, rfl, h.symm⟩

/-- Values that are neither numbers nor strings. -/
def NoNum (u : Value) : Prop := (∀ k m, u ≠ .int k m) ∧ (∀ s, u ≠ .string s) ∧ (∀ k m, u ≠ .float k m) ∧ (∀ k m i, u ≠ .complex k m i) ∧ u ≠ .nilIface

theorem run_eq {neg : Bool} {t : TypeId} {ox oy : Operand} {u v : Value} {r : Bool} {w : World} (hu : NoNum u) (hagg : (∃ us vs, u = .agg us ∧ v = .agg vs) → P.eqGuardType P.depth t = false)
    (h : (Op.equal t u v).run P w = .ok r w) :
    (do pure (Next.value (← (do eqGuard (if neg then .neq else .eql) t ox oy u v; binOp (if neg then .neq else .eql) t u v))) : Sem Next).run P w = .ok (.value (.bool (r != neg))) w := by
  obtain ⟨h1, h2, h3, h4, h5⟩ := hu
  simp only [Sem.run_bind, eqGuard_ok hagg (fun ⟨e, _⟩ => h5 e) w, Result.andThen_ok]
  rw [run_binOp_eq ⟨fun k m k' n e => h1 k m e.1, fun s s' e => h2 s e.1, fun k m k' n e => h3 k m e.1, fun k m k' n i j e => h4 k m i e.1⟩ w, h]
  rfl

theorem equal_of {t : TypeId} {u v : Value} {r : Bool} {w : World} (h : ∀ n, (Op.equalIn (n + 1) t u v).run P w = .ok r w) : (Op.equal t u v).run P w = .ok r w := h 9999

theorem eqSem_ok {t : TypeId} {x y : AV} {neg : Bool} {s : Sm} {ox oy : Operand} {u v : Value} (h : eqSem P t x y neg = some s) (hx : VRel ρ x u) (hy : VRel ρ y v) :
    SemOk P a s (do pure (Next.value (← (do eqGuard (if neg then .neq else .eql) t ox oy u v; binOp (if neg then .neq else .eql) t u v)))) ρ := by
  unfold eqSem at h
  split at h
  · -- a nil pointer
    rename_i e b hd
    obtain rfl := Option.some.inj h
    cases hx
    cases b with
    | none =>
      cases hy
      refine semOk_pure (u := .bool (true != neg)) (fun w => run_eq ⟨by simp, by simp, by simp, by simp, by simp⟩ (by rintro ⟨us, vs, h, _⟩; cases h) (equal_of fun n => ?_)) rfl
      simp only [Op.equalIn, Sem.run_bind, und_run hd, Result.andThen_ok, Sem.run_pure, Option.isNone_none]
    | some q =>
      obtain ⟨p, hp, rfl⟩ := hy
      refine semOk_pure (u := .bool (false != neg)) (fun w => run_eq ⟨by simp, by simp, by simp, by simp, by simp⟩ (by rintro ⟨us, vs, h, _⟩; cases h) (equal_of fun n => ?_)) rfl
      simp only [Op.equalIn, Sem.run_bind, und_run hd, Result.andThen_ok, Sem.run_pure, Option.isNone_some]
  · -- a pointer against nil
    rename_i e q hd
    obtain rfl := Option.some.inj h
    obtain ⟨p, hp, rfl⟩ := hx
    cases hy
    refine semOk_pure (u := .bool (false != neg)) (fun w => run_eq ⟨by simp, by simp, by simp, by simp, by simp⟩ (by rintro ⟨us, vs, h, _⟩; cases h) (equal_of fun n => ?_)) rfl
    simp only [Op.equalIn, Sem.run_bind, und_run hd, Result.andThen_ok, Sem.run_pure]
  · -- two pointers
    rename_i e q1 q2 hd
    split at h
    · cases h
    · rename_i hz
      obtain ⟨p, hp, rfl⟩ := hx
      obtain ⟨q, hq, rfl⟩ := hy
      split at h
      · rename_i hb
        obtain rfl := Option.some.inj h
        rw [hb, hq] at hp; injection hp with hp; subst hp
        refine semOk_pure (u := .bool ((q1.2 == q2.2) != neg)) (fun w => run_eq ⟨by simp, by simp, by simp, by simp, by simp⟩ (by rintro ⟨us, vs, h, _⟩; cases h) ?_) rfl
        rw [run_equal_pointer hd hz]
        simp only [sameAddr, beq_self_eq_true, if_true, Sem.run_pure]
        congr 1
        rw [Bool.eq_iff_iff]
        simp
      · rename_i hb
        obtain rfl := Option.some.inj h
        refine semOk_read fun H w os v' hs hos hk => ?_
        obtain ⟨o1, o2, h1, h2, rfl⟩ := mapOpt_two hos
        cases hr : eqRead q1 q2 [o1, o2] with
        | none => simp [hr] at hk
        | some r =>
          simp only [hr, Option.some.injEq] at hk
          subst hk
          refine ⟨.bool (false != neg), run_eq ⟨by simp, by simp, by simp, by simp, by simp⟩ (by rintro ⟨us, vs, h, _⟩; cases h) ?_, rfl⟩
          rw [run_equal_pointer hd hz]
          exact sameAddr_apart hs hp hq hb h1 h2 hr
  · -- a nil slice
    rename_i e n1 c1 s1 b n2 c2 s2 hd
    obtain rfl := Option.some.inj h
    obtain ⟨_, _, rfl⟩ := hx
    cases b with
    | none =>
      obtain ⟨_, _, rfl⟩ := hy
      refine semOk_pure (u := .bool (true != neg)) (fun w => run_eq ⟨by simp, by simp, by simp, by simp, by simp⟩ (by rintro ⟨us, vs, h, _⟩; cases h) (equal_of fun n => ?_)) rfl
      simp only [Op.equalIn, Sem.run_bind, und_run hd, Result.andThen_ok, Sem.run_pure, Option.isNone_none]
    | some q =>
      obtain ⟨p, z, c', hp, rfl, _⟩ := hy
      refine semOk_pure (u := .bool (false != neg)) (fun w => run_eq ⟨by simp, by simp, by simp, by simp, by simp⟩ (by rintro ⟨us, vs, h, _⟩; cases h) (equal_of fun n => ?_)) rfl
      simp only [Op.equalIn, Sem.run_bind, und_run hd, Result.andThen_ok, Sem.run_pure, Option.isNone_some]
  · -- a slice against nil
    rename_i e q n1 c1 s1 n2 c2 s2 hd
    obtain rfl := Option.some.inj h
    obtain ⟨p, z, c', hp, rfl, _⟩ := hx
    obtain ⟨_, _, rfl⟩ := hy
    refine semOk_pure (u := .bool (false != neg)) (fun w => run_eq ⟨by simp, by simp, by simp, by simp, by simp⟩ (by rintro ⟨us, vs, h, _⟩; cases h) (equal_of fun n => ?_)) rfl
    simp only [Op.equalIn, Sem.run_bind, und_run hd, Result.andThen_ok, Sem.run_pure]
  · -- a nil map
    rename_i k e b hd
    obtain rfl := Option.some.inj h
    cases hx
    cases b with
    | none =>
      cases hy
      refine semOk_pure (u := .bool (true != neg)) (fun w => run_eq ⟨by simp, by simp, by simp, by simp, by simp⟩ (by rintro ⟨us, vs, h, _⟩; cases h) (equal_of fun n => ?_)) rfl
      simp only [Op.equalIn, Sem.run_bind, und_run hd, Result.andThen_ok, Sem.run_pure, Option.isNone_none]
    | some q =>
      obtain ⟨p, hp, _, rfl⟩ := hy
      refine semOk_pure (u := .bool (false != neg)) (fun w => run_eq ⟨by simp, by simp, by simp, by simp, by simp⟩ (by rintro ⟨us, vs, h, _⟩; cases h) (equal_of fun n => ?_)) rfl
      simp only [Op.equalIn, Sem.run_bind, und_run hd, Result.andThen_ok, Sem.run_pure, Option.isNone_some]
  · rename_i k e q hd
    obtain rfl := Option.some.inj h
    obtain ⟨p, hp, _, rfl⟩ := hx
    cases hy
    refine semOk_pure (u := .bool (false != neg)) (fun w => run_eq ⟨by simp, by simp, by simp, by simp, by simp⟩ (by rintro ⟨us, vs, h, _⟩; cases h) (equal_of fun n => ?_)) rfl
    simp only [Op.equalIn, Sem.run_bind, und_run hd, Result.andThen_ok, Sem.run_pure]
  · rename_i k1 k2 k3 hd
    obtain rfl := Option.some.inj h
    cases hx; cases hy
    refine semOk_pure (u := .bool (true != neg)) (fun w => run_eq ⟨by simp, by simp, by simp, by simp, by simp⟩ (by rintro ⟨us, vs, h, _⟩; cases h) (equal_of fun n => ?_)) rfl
    simp only [Op.equalIn, Sem.run_bind, und_run hd, Result.andThen_ok, Sem.run_pure]
  · rename_i k1 k2 k3 f xs ys hd
    obtain rfl := Option.some.inj h
    cases hx
    obtain ⟨us, vs, rfl, _⟩ := hy
    refine semOk_pure (u := .bool (false != neg)) (fun w => run_eq ⟨by simp, by simp, by simp, by simp, by simp⟩ (by rintro ⟨us, vs, h, _⟩; cases h) (equal_of fun n => ?_)) rfl
    simp only [Op.equalIn, Sem.run_bind, und_run hd, Result.andThen_ok, Sem.run_pure]
  · rename_i k1 k2 k3 f xs ys hd
    obtain rfl := Option.some.inj h
    cases hy
    obtain ⟨us, vs, rfl, _⟩ := hx
    refine semOk_pure (u := .bool (false != neg)) (fun w => run_eq ⟨by simp, by simp, by simp, by simp, by simp⟩ (by rintro ⟨us, vs, h, _⟩; cases h) (equal_of fun n => ?_)) rfl
    simp only [Op.equalIn, Sem.run_bind, und_run hd, Result.andThen_ok, Sem.run_pure]
  all_goals first
    | (rename_i xs ys hd
       split at h
       · cases h
       · rename_i hg
         cases hr : eqA P 8 t (.agg xs) (.agg ys) with
         | none => simp [hr] at h
         | some r =>
           simp only [hr, Option.some.injEq] at h
           subst h
           have he := fun w => eqA_ok (P := P) (ρ := ρ) 8 10000 t _ _ r u v (by omega) hr hx hy w
           obtain ⟨us, rfl, _⟩ := hx
           obtain ⟨vs, rfl, _⟩ := hy
           exact semOk_pure (u := .bool (r != neg)) (fun w => run_eq ⟨by simp, by simp, by simp, by simp, by simp⟩ (fun _ => by simpa using hg) (he w)) rfl)
    | cases h

theorem binSem_ok {op : BinOp} {t : TypeId} {x y : AV} {s : Sm} {ox oy : Operand} {u v : Value} (h : binSem P op t x y = some s) (hx : VRel ρ x u) (hy : VRel ρ y v) :
    SemOk P a s (do pure (Next.value (← (do eqGuard op t ox oy u v; binOp op t u v)))) ρ := by
  have num : ∀ {r : AV} {u v : Value}, (∃ z, (∀ w, (binOp op t u v).run P w = .ok z w) ∧ VRel ρ r z) → (¬ (u = .nilIface ∧ v = .nilIface)) → (¬ ∃ us vs, u = .agg us ∧ v = .agg vs) →
      SemOk P a (.pure r) (do pure (Next.value (← (do eqGuard op t ox oy u v; binOp op t u v)))) ρ := by
    intro r u v ⟨z, hz, hr⟩ h1 h2
    refine semOk_pure (u := z) (fun w => ?_) hr
    simp only [Sem.run_bind, eqGuard_ok (fun h => absurd h h2) h1 w, Result.andThen_ok, hz, Sem.run_pure]
  unfold binSem at h
  split at h
  · rename_i k p k' q
    cases hs : shiftOp .shl k p q with
    | none => simp [hs] at h
    | some r =>
      simp only [hs, Option.map_some, Option.some.injEq] at h
      subst h
      cases hx; cases hy
      exact num (shiftOp_ok hs (.inl rfl)) (by simp) (by simp)
  · rename_i k p k' q
    cases hs : shiftOp .shr k p q with
    | none => simp [hs] at h
    | some r =>
      simp only [hs, Option.map_some, Option.some.injEq] at h
      subst h
      cases hx; cases hy
      exact num (shiftOp_ok hs (.inr rfl)) (by simp) (by simp)
  · rename_i k p k' q hn1 hn2
    split at h
    · rename_i e
      subst e
      cases hs : intOp op k p q with
      | none => simp [hs] at h
      | some r =>
        simp only [hs, Option.map_some, Option.some.injEq] at h
        subst h
        cases hx; cases hy
        exact num (intOp_ok ⟨by rintro rfl; simp [intOp] at hs, by rintro rfl; simp [intOp] at hs⟩ hs) (by simp) (by simp)
    · cases h
  · rename_i p q
    cases hs : strOp op p q with
    | none => simp [hs] at h
    | some r =>
      simp only [hs, Option.map_some, Option.some.injEq] at h
      subst h
      cases hx; cases hy
      exact num (strOp_ok hs) (by simp) (by simp)
  · rename_i p q
    split at h
    · rename_i hd
      obtain rfl := Option.some.inj h
      cases hx; cases hy
      refine num ⟨.bool (p == q), fun w => ?_, rfl⟩ (by simp) (by simp)
      simp only [binOp, Sem.run_bind, equal_of fun n => run_equalIn_bool' w n t p q hd, Result.andThen_ok, Sem.run_pure]
    · cases h
  · rename_i p q
    split at h
    · rename_i hd
      obtain rfl := Option.some.inj h
      cases hx; cases hy
      refine num ⟨.bool (!(p == q)), fun w => ?_, rfl⟩ (by simp) (by simp)
      simp only [binOp, Sem.run_bind, equal_of fun n => run_equalIn_bool' w n t p q hd, Result.andThen_ok, Sem.run_pure]
    · cases h
  · have := eqSem_ok (a := a) (ox := ox) (oy := oy) h hx hy
    simpa using this
  · have := eqSem_ok (a := a) (ox := ox) (oy := oy) h hx hy
    simpa using this
  · cases h

theorem unSem_ok {op : UnOp} {x v : AV} {u : Value} (h : unSem op x = some v) (hx : VRel ρ x u) : ∃ r, (∀ w, (Op.unary op u).run P w = .ok r w) ∧ VRel ρ v r := by
  unfold unSem at h
  split at h
  · obtain rfl := Option.some.inj h
    cases hx
    exact ⟨_, fun w => rfl, rfl⟩
  · obtain rfl := Option.some.inj h
    cases hx
    exact ⟨_, fun w => rfl, rfl⟩
  · obtain rfl := Option.some.inj h
    cases hx
    exact ⟨_, fun w => rfl, rfl⟩
  · cases h

end
end Go.Abs

/- Each operation of the model comes to what the abstract machine says: conversions, maps, make, append, copy, clear, delete. -/
namespace Go.Abs
set_option linter.unusedVariables false
set_option linter.unusedSimpArgs false

section
variable {P : Program} {a : Act} {ρ : Map}

/-! ## conversions -/
theorem cellsOfBytes_rel (ρ : Map) (s : List UInt8) : VRels ρ (cellsOfBytes s) ((⟨s.toArray⟩ : ByteArray).data.map fun b => Value.int .u8 b.toNat).toList := by
  have : ((⟨s.toArray⟩ : ByteArray).data.map fun b => Value.int .u8 b.toNat).toList = s.map fun b => Value.int .u8 b.toNat := by simp
  rw [this]
  exact VRels.map_eq (fun b : UInt8 => AV.int .u8 b.toNat) (fun b : UInt8 => Value.int .u8 b.toNat) (fun _ => rfl) s

theorem heap_drawn (w : World) : ({ w with drawn := w.drawn + 1 } : World).heap = w.heap := rfl

theorem good_drawn {G : Nat} {ρ : Map} {H : Heap} {w : World} (hs : Sim G ρ H w) : Good G ρ H w ρ H { w with drawn := w.drawn + 1 } :=
  Good.same hs rfl rfl rfl rfl

theorem run_capAsk (need old : Nat) (e : TypeId) (w : World) (hn : need < 2 ^ 63) : ∃ c, need ≤ c ∧ (choose (.appendCap need old e)).run P w = .ok c { w with drawn := w.drawn + 1 } := by
  refine ⟨Question.cut (.appendCap need old e) (w.tape w.drawn (.appendCap need old e)), ?_, ?_⟩
  · simp only [Question.cut]; omega
  · rw [run_choose, if_neg (by simp [Question.forced])]

theorem stringToBytes_ok {s : List UInt8} {e : TypeId} (hl : s.length < 2 ^ 63) :
    SemOk P a (.alloc (.cells (cellsOfBytes s) e true true) fun n => .slice (some (n, 0)) s.length s.length (some 1)) (do pure (Next.value (← Conv.stringToBytes e ⟨s.toArray⟩))) ρ := by
  intro H w v' H' hs hr hfree hwf
  simp only [Sm.run, Option.some.injEq, Prod.mk.injEq] at hr
  obtain ⟨rfl, rfl⟩ := hr
  obtain ⟨c, hc, hcap⟩ := run_capAsk (P := P) s.length 0 e w hl
  let w1 : World := { w with drawn := w.drawn + 1 }
  let C : Array Value := ((⟨s.toArray⟩ : ByteArray).data.map fun b => Value.int .u8 b.toNat) ++ Array.replicate (c - s.length) (.int .u8 0)
  have hCs : C.size = c := by simp [C]; omega
  have hsz : (cellsOfBytes s).length = s.length := by simp [cellsOfBytes]
  have hg1 : Good P.globals.size ρ H w ρ H w1 := good_drawn hs
  have hg2 := Good.newCells (e := e) (el := e) (m := true) (fr := (0, 0)) hg1.sim (hfree _ (Nat.le_refl _) (by simp)) (cs := cellsOfBytes s) (C := C) (by
    have h := cellsOfBytes_rel ρ s
    have e1 : C.toList.take (cellsOfBytes s).length = ((⟨s.toArray⟩ : ByteArray).data.map fun b => Value.int .u8 b.toNat).toList := by
      rw [hsz]
      simp only [C, Array.toList_append]
      rw [List.take_left' (by simp)]
    rw [e1]
    exact h) (by rw [hsz, hCs]; exact hc) (.inl rfl)
  have hat : (w1.alloc (.cells C e)).heap[w.heap.size]? = some (.cells C e (0, 0)) := by
    show (w.heap.push _)[w.heap.size]? = _
    simp
  have hg3 := Good.marked (p := ⟨w.heap.size, 0, C.size⟩) hg2.sim (by rw [Heap.get_push, if_pos rfl]) (upd_same _ _ _) hat
  refine does_value (u := .slice (some ⟨w.heap.size, 0, none⟩) s.length c) (w' := (w1.alloc (.cells C e)).freeze { block := w.heap.size, off := C.size } 1) ?_
    (((hg1.trans hg2).trans hg3).congr (fun x => by simp only [Heap.get_set, Heap.get_push]; split <;> rfl) rfl) ?_
  · apply run_v
    simp only [Conv.stringToBytes, Sem.run_bind, str_size, hcap, Result.andThen_ok, newRow, run_newObj, Sem.run_pure]
    simp only [markStringish, Sem.run_bind, run_shape]
    have hsh : (World.shape? { w1 with heap := w1.heap.push (.cells C e) } w.heap.size) = some (e, C.size) := by
      have : ({ w1 with heap := w1.heap.push (.cells C e) } : World).heap[w.heap.size]? = some (.cells C e (0, 0)) := hat
      simp only [World.shape?, this]
    show Result.andThen (Result.andThen (Result.ok (World.shape? { w1 with heap := w1.heap.push (.cells C e) } w.heap.size) { w1 with heap := w1.heap.push (.cells C e) }) _) _ = _
    rw [hsh]
    rfl
  · exact ⟨⟨w.heap.size, 0, C.size⟩, _, c, by simpa using upd_same _ _ _, rfl, Nat.le_refl _, hc, .inr rfl, .inr ⟨1, rfl, by simp [hCs]⟩⟩

theorem bytesOfCells_ints : ∀ {cs : List AV} {s : List UInt8}, bytesOfCells cs = some s → ∃ ns : List Int, cs = ns.map (AV.int .u8) ∧ s = ns.map fun n => UInt8.ofNat n.toNat
  | [], s, h => by simp only [bytesOfCells, Option.some.injEq] at h; subst h; exact ⟨[], rfl, rfl⟩
  | c :: r, s, h => by
    unfold bytesOfCells at h
    split at h
    · rename_i heq; cases heq
    · rename_i n r' heq
      injection heq with e1 e2
      subst e1; subst e2
      cases hr : bytesOfCells r with
      | none => simp [hr] at h
      | some bs =>
        simp only [hr, Option.some.injEq] at h
        obtain ⟨ns, e1, e2⟩ := bytesOfCells_ints hr
        exact ⟨n :: ns, by simp [e1], by rw [← h, e2]; rfl⟩
    · cases h

theorem foldl_push (l : List Int) (s : List UInt8) : (l.foldl (fun (r : ByteArray) n => r.push (UInt8.ofNat n.toNat)) ⟨s.toArray⟩) = ⟨(s ++ l.map fun n => UInt8.ofNat n.toNat).toArray⟩ := by
  induction l generalizing s with
  | nil => simp
  | cons n l ih =>
    simp only [List.foldl_cons, List.map_cons]
    have : (⟨s.toArray⟩ : ByteArray).push (UInt8.ofNat n.toNat) = ⟨(s ++ [UInt8.ofNat n.toNat]).toArray⟩ := by
      apply ByteArray.ext
      simp
    rw [this, ih]
    simp

theorem vrels_ints {ρ : Map} {ns : List Int} {us : List Value} (h : VRels ρ (ns.map (AV.int .u8)) us) : us = ns.map (Value.int .u8) := by
  induction ns generalizing us with
  | nil => exact h
  | cons n ns ih =>
    obtain ⟨y, ys, rfl, hy, hys⟩ := h
    cases hy
    rw [ih hys]
    rfl

theorem conv_ok {src dst : TypeId} {x : AV} {s : Sm} {u : Value} (h : convSem P src dst x = some s) (hx : VRel ρ x u) : SemOk P a s (do pure (Next.value (← convert src dst u))) ρ := by
  unfold convSem at h
  split at h
  · rename_i d1 k k' n hs hd
    obtain rfl := Option.some.inj h
    cases hx
    refine semOk_pure (u := .int k (k.wrap n)) (fun w => run_v _ _ _ _ ?_) rfl
    cases d1 <;> simp [convert, und_run hs, und_run hd, Conv.intToInt]
  · rename_i d1 t hs hd
    obtain rfl := Option.some.inj h
    cases hx
    refine semOk_pure (u := .string ⟨t.toArray⟩) (fun w => run_v _ _ _ _ ?_) rfl
    cases d1 <;> simp [convert, und_run hs, und_run hd]
  · rename_i d1 e t hs hd
    split at h
    · rename_i he
      split at h
      · rename_i hle
        obtain rfl := Option.some.inj h
        cases hx
        have hl : t.length < 2 ^ 63 := by have := hle.2; omega
        have := stringToBytes_ok (P := P) (a := a) (ρ := ρ) (s := t) (e := e) hl
        intro H w v' H' hs' hr hf hwf
        have hdo := this H w v' H' hs' hr hf (by intro k e; cases e)
        unfold Does Delivers at *
        have : (do pure (Next.value (← convert src dst (Value.string ⟨t.toArray⟩))) : Sem Next).run P w = (do pure (Next.value (← Conv.stringToBytes e ⟨t.toArray⟩)) : Sem Next).run P w := by
          cases d1 <;> simp [convert, und_run hs, und_run hd, und_run he]
        rw [this]
        exact hdo
      · cases h
    · cases h
  · rename_i e1 e q n c sl hs hd
    split at h
    · rename_i hsd
      obtain ⟨hsd, hcp⟩ := hsd
      subst hsd
      split at h
      · rename_i he
        obtain rfl := Option.some.inj h
        intro H w v' H' hsim hr _ hwf
        simp only [Sm.run] at hr
        cases hg : H.get q.1 with
        | none => simp [hg] at hr
        | some o =>
          cases o with
          | map _ => simp [hg] at hr
          | iter _ _ => simp [hg] at hr
          | dead => simp [hg] at hr
          | cells cs el own mk =>
            cases own with
            | false => simp [hg] at hr
            | true =>
              simp only [hg, Option.some.injEq, Prod.mk.injEq] at hr
              obtain ⟨rfl, rfl⟩ := hr
              obtain ⟨p, y, c', hp, rfl, r⟩ := hx
              have r' := r
              obtain ⟨_, hcc, e3, _⟩ := r'
              have e3 : y = _ := e3.resolve_left (by omega)
              have e3 : y.block = p.blk := by rw [e3]
              obtain ⟨p1, C, el', fr, hp1, hh, _⟩ := hsim.obj _ _ hg
              rw [hp] at hp1; injection hp1 with hp1; subst hp1
              have hgood := Good.marked hsim hg hp hh
              refine does_value (run_v _ _ _ (.slice (some y) n c') ?_) hgood ⟨p, y, c', hp, rfl, r⟩
              have hsh : w.shape? p.blk = some (el', C.size) := by simp [World.shape?, hh]
              simp only [convert, Sem.run_bind, und_run hd, Result.andThen_ok, und_run he, beq_self_eq_true, markStringish, run_shape, run_freeze, Sem.run_pure, e3, hsh]
      · cases h
    · cases h
  · rename_i e q n c sl hs hd
    split at h
    · rename_i he
      obtain rfl := Option.some.inj h
      obtain ⟨_, _, rfl⟩ := hx
      refine semOk_pure (u := .string .empty) (fun w => run_v _ _ _ _ ?_) rfl
      simp [convert, und_run hs, und_run hd, und_run he, Conv.bytesToString]
    · rename_i b o he
      obtain rfl := Option.some.inj h
      refine semOk_read fun H w os v' hsim hos hk => ?_
      obtain ⟨ob, hob, rfl⟩ := mapOpt_one hos
      cases ob with
      | map _ => simp at hk
      | iter _ _ => simp at hk
      | dead => simp at hk
      | cells cs el own mk =>
        simp only [] at hk
        split at hk
        · rename_i hle
          cases hb : bytesOfCells ((cs.drop o).take n) with
          | none => simp [hb] at hk
          | some bs =>
            simp only [hb, Option.map_some, Option.some.injEq] at hk
            subst hk
            obtain ⟨ns, e1, e2⟩ := bytesOfCells_ints hb
            obtain ⟨p, y, c', hp, rfl, g1, g2, g5, _⟩ := hx
            have hrun : (loadCells y n).run P w = .ok (ns.map (Value.int .u8)).toArray w := by
              by_cases hn : n = 0
              · subst hn
                have : ns = [] := by simpa using e1.symm
                subst this
                simp [loadCells, loadCellsFrom]
              · obtain ⟨p1, C, el', fr, hp1, hh, hcr, _⟩ := hsim.obj _ _ hob
                rw [hp] at hp1; injection hp1 with hp1; subst hp1
                have hy : y = ⟨p.blk, p.off + o, none⟩ := by
                  rcases g5 with g5 | g5
                  · omega
                  · exact g5
                subst hy
                obtain ⟨us, hu, hrel⟩ := cells_read (P := P) hh hcr o n hle
                rw [e1] at hrel
                rw [hu]
                congr 1
                apply Array.ext'
                rw [vrels_ints hrel]
            refine ⟨.string (ns.foldl (fun r n => r.push (UInt8.ofNat n.toNat)) ByteArray.empty), run_v _ _ _ _ ?_, ?_⟩
            · simp only [convert, Sem.run_bind, und_run hs, und_run hd, Result.andThen_ok, und_run he]
              exact run_bytesToString w y n c' ns hrun
            · have := foldl_push ns []
              simp only [List.nil_append] at this
              show Value.string _ = Value.string _
              rw [e2, ← this]
              rfl
        · cases hk
    · cases h
  · cases h

end
end Go.Abs
