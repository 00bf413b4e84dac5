/- The abstract machine's values and memory: a deterministic picture of the model's memory, with no tape, no capacities and no block numbers of the world's. -/
import Derived.Calls
namespace Go.Abs

/-- A value: addresses are (block, offset) in the abstract memory; a slice's capacity is exact (slack: none), or a lower bound (slack: the cells of an element). -/
inductive AV where
  | bool (b : Bool)
  | int (k : IntKind) (n : Int)
  | str (s : List UInt8)
  | ptr (a : Option (Nat × Nat))
  | slice (a : Option (Nat × Nat)) (len cap : Nat) (slack : Option Nat)
  | map (r : Option Nat)
  | func (fn : Fn) (first captured : List AV)
  | nilFunc
  | iface (t : TypeId) (v : AV)
  | nilIface
  | agg (cs : List AV)
  | tuple (vs : List AV)

instance : Inhabited AV := ⟨.nilFunc⟩

def AV.undef : AV := .tuple []

def AV.cells : AV → List AV
  | .agg cs => cs
  | v => [v]

/-- A value of one cell. -/
def AV.one : AV → Bool
  | .agg _ => false
  | .tuple _ => false
  | _ => true

mutual
def AV.beq : AV → AV → Bool
  | .bool a, .bool b => a == b
  | .int j a, .int k b => j == k && a == b
  | .str a, .str b => a == b
  | .ptr a, .ptr b => a == b
  | .slice a n c e, .slice b m d f => a == b && n == m && c == d && e == f
  | .map a, .map b => a == b
  | .func f xs ys, .func g us vs => f == g && AV.beqs xs us && AV.beqs ys vs
  | .nilFunc, .nilFunc => true
  | .iface t v, .iface u x => t == u && AV.beq v x
  | .nilIface, .nilIface => true
  | .agg xs, .agg ys => AV.beqs xs ys
  | .tuple xs, .tuple ys => AV.beqs xs ys
  | _, _ => false
def AV.beqs : List AV → List AV → Bool
  | [], [] => true
  | x :: xs, y :: ys => AV.beq x y && AV.beqs xs ys
  | _, _ => false
end

mutual
theorem AV.beq_refl : ∀ a : AV, AV.beq a a = true
  | .bool _ => by simp [AV.beq]
  | .int _ _ => by simp [AV.beq]
  | .str _ => by simp [AV.beq]
  | .ptr _ => by simp [AV.beq]
  | .slice _ _ _ _ => by simp [AV.beq]
  | .map _ => by simp [AV.beq]
  | .func _ xs ys => by simp [AV.beq, AV.beqs_refl xs, AV.beqs_refl ys]
  | .nilFunc => by simp [AV.beq]
  | .iface _ v => by simp [AV.beq, AV.beq_refl v]
  | .nilIface => by simp [AV.beq]
  | .agg xs => by simp [AV.beq, AV.beqs_refl xs]
  | .tuple xs => by simp [AV.beq, AV.beqs_refl xs]
theorem AV.beqs_refl : ∀ l : List AV, AV.beqs l l = true
  | [] => by simp [AV.beqs]
  | x :: xs => by simp [AV.beqs, AV.beq_refl x, AV.beqs_refl xs]
end

mutual
theorem AV.eq_of_beq : ∀ a b : AV, AV.beq a b = true → a = b
  | .bool a, b, h => by cases b <;> simp_all [AV.beq]
  | .int _ _, b, h => by cases b <;> simp_all [AV.beq]
  | .str _, b, h => by cases b <;> simp_all [AV.beq]
  | .ptr _, b, h => by cases b <;> simp_all [AV.beq]
  | .slice _ _ _ _, b, h => by cases b <;> simp_all [AV.beq]
  | .map _, b, h => by cases b <;> simp_all [AV.beq]
  | .func _ xs ys, b, h => by
    cases b <;> simp [AV.beq] at h
    rename_i us vs
    simp [h.1.1, AV.eq_of_beqs xs us h.1.2, AV.eq_of_beqs ys vs h.2]
  | .nilFunc, b, h => by cases b <;> simp_all [AV.beq]
  | .iface _ v, b, h => by
    cases b <;> simp [AV.beq] at h
    simp [h.1, AV.eq_of_beq v _ h.2]
  | .nilIface, b, h => by cases b <;> simp_all [AV.beq]
  | .agg xs, b, h => by
    cases b <;> simp [AV.beq] at h
    simp [AV.eq_of_beqs xs _ h]
  | .tuple xs, b, h => by
    cases b <;> simp [AV.beq] at h
    simp [AV.eq_of_beqs xs _ h]
theorem AV.eq_of_beqs : ∀ a b : List AV, AV.beqs a b = true → a = b
  | [], b, h => by cases b <;> simp_all [AV.beqs]
  | x :: xs, b, h => by
    cases b <;> simp [AV.beqs] at h
    simp [AV.eq_of_beq x _ h.1, AV.eq_of_beqs xs _ h.2]
end

/-- What lies in a block. 'own': it was made by the run and may be written; 'marked': its bytes may be a string's constant's. -/
inductive AObj where
  | cells (c : List AV) (elem : TypeId) (own marked : Bool)
  | map (es : List (AV × AV))
  | dead

instance : Inhabited AObj := ⟨.dead⟩

def beqPairs : List (AV × AV) → List (AV × AV) → Bool
  | [], [] => true
  | (a, b) :: xs, (c, d) :: ys => a.beq c && b.beq d && beqPairs xs ys
  | _, _ => false

theorem beqPairs_refl : ∀ l, beqPairs l l = true
  | [] => rfl
  | (a, b) :: xs => by simp [beqPairs, AV.beq_refl, beqPairs_refl xs]

theorem eq_of_beqPairs : ∀ a b, beqPairs a b = true → a = b
  | [], b, h => by cases b <;> simp_all [beqPairs]
  | (x, y) :: xs, b, h => by
    cases b with
    | nil => simp [beqPairs] at h
    | cons p ys =>
      obtain ⟨u, v⟩ := p
      simp [beqPairs] at h
      rw [AV.eq_of_beq _ _ h.1.1, AV.eq_of_beq _ _ h.1.2, eq_of_beqPairs _ _ h.2]

def AObj.beq : AObj → AObj → Bool
  | .cells c e o m, .cells d f p n => AV.beqs c d && e == f && o == p && m == n
  | .map a, .map b => beqPairs a b
  | .dead, .dead => true
  | _, _ => false

theorem AObj.beq_refl : ∀ o : AObj, o.beq o = true
  | .cells c _ _ _ => by simp [AObj.beq, AV.beqs_refl]
  | .map es => by simp [AObj.beq, beqPairs_refl]
  | .dead => rfl

theorem AObj.eq_of_beq (a b : AObj) (h : a.beq b = true) : a = b := by
  cases a <;> cases b <;> simp [AObj.beq] at h
  · simp [AV.eq_of_beqs _ _ h.1.1.1, h.1.1.2, h.1.2, h.2]
  · simp [eq_of_beqPairs _ _ h]
  · rfl

/-- Memory: a tree by the digits of a block's number. -/
inductive Tree where
  | leaf
  | node (l : Tree) (v : Option AObj) (r : Tree)

def Tree.get : Tree → Nat → Option AObj
  | .leaf, _ => none
  | .node l v r, n => if n = 0 then v else if n % 2 = 1 then l.get (n / 2) else r.get (n / 2 - 1)

/-- With fuel: at most as many digits as the number says. -/
def Tree.single : Nat → Nat → AObj → Tree
  | 0, _, o => .node .leaf (some o) .leaf
  | f + 1, n, o => if n = 0 then .node .leaf (some o) .leaf else if n % 2 = 1 then .node (Tree.single f (n / 2) o) none .leaf else .node .leaf none (Tree.single f (n / 2 - 1) o)

def Tree.set : Tree → Nat → AObj → Tree
  | .leaf, n, o => Tree.single n n o
  | .node l v r, n, o => if n = 0 then .node l (some o) r else if n % 2 = 1 then .node (l.set (n / 2) o) v r else .node l v (r.set (n / 2 - 1) o)

theorem Tree.get_single : ∀ (f n m : Nat) (o : AObj), n ≤ f → (Tree.single f n o).get m = if m = n then some o else none
  | 0, n, m, o, h => by
    have : n = 0 := by omega
    subst this
    simp only [Tree.single, Tree.get]
    split
    · rfl
    · split <;> rfl
  | f + 1, n, m, o, h => by
    unfold Tree.single
    by_cases h0 : n = 0
    · subst h0
      simp only [if_true, Tree.get]
      split
      · rfl
      · split <;> rfl
    · rw [if_neg h0]
      by_cases h1 : n % 2 = 1
      · rw [if_pos h1]
        simp only [Tree.get]
        by_cases m0 : m = 0
        · rw [if_pos m0, if_neg (by omega)]
        · rw [if_neg m0]
          by_cases m1 : m % 2 = 1
          · rw [if_pos m1, Tree.get_single f _ _ _ (by omega)]
            by_cases e : m = n
            · rw [if_pos e, if_pos (by omega)]
            · rw [if_neg e, if_neg (by omega)]
          · rw [if_neg m1, if_neg (by omega)]
      · rw [if_neg h1]
        simp only [Tree.get]
        by_cases m0 : m = 0
        · rw [if_pos m0, if_neg (by omega)]
        · rw [if_neg m0]
          by_cases m1 : m % 2 = 1
          · rw [if_pos m1, if_neg (by omega)]
          · rw [if_neg m1, Tree.get_single f _ _ _ (by omega)]
            by_cases e : m = n
            · rw [if_pos e, if_pos (by omega)]
            · rw [if_neg e, if_neg (by omega)]

theorem Tree.get_set : ∀ (t : Tree) (n m : Nat) (o : AObj), (t.set n o).get m = if m = n then some o else t.get m
  | .leaf, n, m, o => by simp [Tree.set, Tree.get_single n n m o (Nat.le_refl _), Tree.get]
  | .node l v r, n, m, o => by
    unfold Tree.set
    by_cases h0 : n = 0
    · subst h0
      simp only [if_true, Tree.get]
      by_cases m0 : m = 0
      · simp [m0]
      · simp [m0]
    · rw [if_neg h0]
      by_cases h1 : n % 2 = 1
      · rw [if_pos h1]
        simp only [Tree.get]
        by_cases m0 : m = 0
        · rw [if_pos m0, if_neg (by omega), if_pos m0]
        · rw [if_neg m0, if_neg m0]
          by_cases m1 : m % 2 = 1
          · rw [if_pos m1, if_pos m1, Tree.get_set l]
            by_cases e : m = n
            · rw [if_pos e, if_pos (by omega)]
            · rw [if_neg e, if_neg (by omega)]
          · rw [if_neg m1, if_neg m1, if_neg (by omega)]
      · rw [if_neg h1]
        simp only [Tree.get]
        by_cases m0 : m = 0
        · rw [if_pos m0, if_neg (by omega), if_pos m0]
        · rw [if_neg m0, if_neg m0]
          by_cases m1 : m % 2 = 1
          · rw [if_pos m1, if_pos m1, if_neg (by omega)]
          · rw [if_neg m1, if_neg m1, Tree.get_set r]
            by_cases e : m = n
            · rw [if_pos e, if_pos (by omega)]
            · rw [if_neg e, if_neg (by omega)]

structure Heap where
  next : Nat
  tree : Tree

def Heap.get (H : Heap) (b : Nat) : Option AObj := H.tree.get b
def Heap.set (H : Heap) (b : Nat) (o : AObj) : Heap := { H with tree := H.tree.set b o }
def Heap.push (H : Heap) (o : AObj) : Heap := { next := H.next + 1, tree := H.tree.set H.next o }

theorem Heap.get_set (H : Heap) (b c : Nat) (o : AObj) : (H.set b o).get c = if c = b then some o else H.get c := Tree.get_set _ _ _ _
theorem Heap.get_push (H : Heap) (c : Nat) (o : AObj) : (H.push o).get c = if c = H.next then some o else H.get c := Tree.get_set _ _ _ _
@[simp] theorem Heap.next_set (H : Heap) (b : Nat) (o : AObj) : (H.set b o).next = H.next := rfl
@[simp] theorem Heap.next_push (H : Heap) (o : AObj) : (H.push o).next = H.next + 1 := rfl
theorem Heap.get_set_same (H : Heap) (b : Nat) (o : AObj) : (H.set b o).get b = some o := by simp [Heap.get_set]
theorem Heap.get_set_ne (H : Heap) {b c : Nat} (o : AObj) (h : c ≠ b) : (H.set b o).get c = H.get c := by simp [Heap.get_set, h]

/-- Cells written one behind the other. -/
def writeAt : List AV → Nat → List AV → List AV
  | c, _, [] => c
  | c, o, v :: vs => writeAt (c.set o v) (o + 1) vs

theorem length_writeAt : ∀ (vs c : List AV) (o : Nat), (writeAt c o vs).length = c.length
  | [], _, _ => rfl
  | v :: vs, c, o => by simp [writeAt, length_writeAt vs]

end Go.Abs
