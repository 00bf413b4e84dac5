/- Each operation's answer as a rule that rewrites: cheap to use, and stuck where it is not told. -/
import Derived.Test.YtpcchlcbmhmopaaAbWp
namespace Go.Abs
set_option linter.unusedVariables false

section
variable {P : Program} {N : Nat} {e : Nat → AV} {H : Heap}

def mvR : Option AV → Heap → Option (AV × Heap)
  | some v, H => some (v, H)
  | none, _ => none
theorem opR_move (x : Operand) : opR P N e (.move x) H = mvR (ev P (tab N e) x) H := by
  simp only [opR_eq, sem]; cases ev P (tab N e) x <;> rfl
theorem opR_assign (x : Operand) : opR P N e (.assign x) H = mvR (ev P (tab N e) x) H := by
  simp only [opR_eq, sem]; cases ev P (tab N e) x <;> rfl
theorem mvR_some (v : AV) : mvR (some v) H = some (v, H) := rfl

def pickR : Option AV → Option AV → Option AV → Heap → Option (AV × Heap)
  | some (.bool t), some x, some y, H => some (if t then x else y, H)
  | _, _, _, _ => none
theorem opR_pick (c a b : Operand) : opR P N e (.pick c a b) H = pickR (ev P (tab N e) c) (ev P (tab N e) a) (ev P (tab N e) b) H := by
  simp only [opR_eq, sem]
  cases ev P (tab N e) c with
  | none => rfl
  | some v => cases v <;> cases ev P (tab N e) a <;> cases ev P (tab N e) b <;> rfl
theorem pickR_eq (t : Bool) (x y : AV) : pickR (some (.bool t)) (some x) (some y) H = some (if t then x else y, H) := rfl

def binR (P : Program) (op : BinOp) (t : TypeId) : Option AV → Option AV → Heap → Option (AV × Heap)
  | some a, some b, H => match binSem P op t a b with
    | some s => s.run H
    | none => none
  | _, _, _ => none
theorem opR_bin (op : BinOp) (t u : TypeId) (x y : Operand) : opR P N e (.binOp op t x y u) H = binR P op t (ev P (tab N e) x) (ev P (tab N e) y) H := by
  simp only [opR_eq, sem]
  cases ev P (tab N e) x <;> cases ev P (tab N e) y <;> rfl

variable {t : TypeId} {k : IntKind} {a b : Int}
theorem binR_add : binR P .add t (some (.int k a)) (some (.int k b)) H = some (.int k (k.wrap (a + b)), H) := by simp [binR, binSem, intOp, Sm.run]
theorem binR_sub : binR P .sub t (some (.int k a)) (some (.int k b)) H = some (.int k (k.wrap (a - b)), H) := by simp [binR, binSem, intOp, Sm.run]
theorem binR_mul : binR P .mul t (some (.int k a)) (some (.int k b)) H = some (.int k (k.wrap (a * b)), H) := by simp [binR, binSem, intOp, Sm.run]
theorem binR_quo (h : b ≠ 0) : binR P .quo t (some (.int k a)) (some (.int k b)) H = some (.int k (k.wrap (a.tdiv b)), H) := by simp [binR, binSem, intOp, Sm.run, h]
theorem binR_rem (h : b ≠ 0) : binR P .rem t (some (.int k a)) (some (.int k b)) H = some (.int k (a.tmod b), H) := by simp [binR, binSem, intOp, Sm.run, h]
theorem binR_and : binR P .and t (some (.int k a)) (some (.int k b)) H = some (.int k (k.wrap (BitVec.ofInt k.bits a &&& BitVec.ofInt k.bits b).toNat), H) := by simp [binR, binSem, intOp, Sm.run]
theorem binR_or : binR P .or t (some (.int k a)) (some (.int k b)) H = some (.int k (k.wrap (BitVec.ofInt k.bits a ||| BitVec.ofInt k.bits b).toNat), H) := by simp [binR, binSem, intOp, Sm.run]
theorem binR_xor : binR P .xor t (some (.int k a)) (some (.int k b)) H = some (.int k (k.wrap (BitVec.ofInt k.bits a ^^^ BitVec.ofInt k.bits b).toNat), H) := by simp [binR, binSem, intOp, Sm.run]
theorem binR_andNot : binR P .andNot t (some (.int k a)) (some (.int k b)) H = some (.int k (k.wrap (BitVec.ofInt k.bits a &&& ~~~(BitVec.ofInt k.bits b)).toNat), H) := by simp [binR, binSem, intOp, Sm.run]
theorem binR_eql : binR P .eql t (some (.int k a)) (some (.int k b)) H = some (.bool (decide (a = b)), H) := by simp only [binR, binSem, intOp, Sm.run, if_true, Option.map_some]; rw [show (a == b) = decide (a = b) from by by_cases h : a = b <;> simp [h]]
theorem binR_neq : binR P .neq t (some (.int k a)) (some (.int k b)) H = some (.bool (decide (a ≠ b)), H) := by simp only [binR, binSem, intOp, Sm.run, if_true, Option.map_some]; rw [show (a != b) = decide (a ≠ b) from by by_cases h : a = b <;> simp [h]]
theorem binR_lss : binR P .lss t (some (.int k a)) (some (.int k b)) H = some (.bool (decide (a < b)), H) := by simp [binR, binSem, intOp, Sm.run]
theorem binR_leq : binR P .leq t (some (.int k a)) (some (.int k b)) H = some (.bool (decide (a ≤ b)), H) := by simp [binR, binSem, intOp, Sm.run]
theorem binR_gtr : binR P .gtr t (some (.int k a)) (some (.int k b)) H = some (.bool (decide (b < a)), H) := by simp [binR, binSem, intOp, Sm.run]
theorem binR_geq : binR P .geq t (some (.int k a)) (some (.int k b)) H = some (.bool (decide (b ≤ a)), H) := by simp [binR, binSem, intOp, Sm.run]
theorem binR_streql {x y : List UInt8} : binR P .eql t (some (.str x)) (some (.str y)) H = some (.bool (x == y), H) := by simp [binR, binSem, strOp, Sm.run]
theorem binR_strneq {x y : List UInt8} : binR P .neq t (some (.str x)) (some (.str y)) H = some (.bool !(x == y), H) := by simp [binR, binSem, strOp, Sm.run]
theorem binR_stradd {x y : List UInt8} (h : x.length + y.length ≤ 2 ^ 62) : binR P .add t (some (.str x)) (some (.str y)) H = some (.str (x ++ y), H) := by simp [binR, binSem, strOp, Sm.run, h]
theorem binR_beql {x y : Bool} (h : P.underlying t = some .bool) : binR P .eql t (some (.bool x)) (some (.bool y)) H = some (.bool (x == y), H) := by simp [binR, binSem, Sm.run, h]
theorem binR_bneq {x y : Bool} (h : P.underlying t = some .bool) : binR P .neq t (some (.bool x)) (some (.bool y)) H = some (.bool !(x == y), H) := by simp [binR, binSem, Sm.run, h]

/-! pointers, slices, maps beside nil -/
def isPtrT (P : Program) (t : TypeId) : Bool := match P.underlying t with | some (.pointer _) => true | _ => false
def isSliceT (P : Program) (t : TypeId) : Bool := match P.underlying t with | some (.slice _) => true | _ => false
def isMapT (P : Program) (t : TypeId) : Bool := match P.underlying t with | some (.map _ _) => true | _ => false
def isStrT (P : Program) (t : TypeId) : Bool := match P.underlying t with | some .string => true | _ => false
def firstT (f : Program → TypeId → Bool) (P : Program) (ts : Array TypeId) : Bool := match ts[0]? with | some t => f P t | none => false

theorem isPtrT_of (h : isPtrT P t = true) : ∃ u, P.underlying t = some (.pointer u) := by unfold isPtrT at h; split at h <;> first | exact ⟨_, by assumption⟩ | cases h
theorem isSliceT_of (h : isSliceT P t = true) : ∃ u, P.underlying t = some (.slice u) := by unfold isSliceT at h; split at h <;> first | exact ⟨_, by assumption⟩ | cases h
theorem isMapT_of (h : isMapT P t = true) : ∃ u v, P.underlying t = some (.map u v) := by unfold isMapT at h; split at h <;> first | exact ⟨_, _, by assumption⟩ | cases h
theorem isStrT_of (h : isStrT P t = true) : P.underlying t = some .string := by unfold isStrT at h; split at h <;> first | assumption | cases h
theorem firstT_of {f : Program → TypeId → Bool} {ts : Array TypeId} (h : firstT f P ts = true) : ∃ t, ts[0]? = some t ∧ f P t = true := by
  unfold firstT at h; split at h
  · exact ⟨_, by assumption, h⟩
  · cases h
theorem binR_nilnil_p (h : isPtrT P t = true) : binR P .eql t (some (.ptr none)) (some (.ptr none)) H = some (.bool true, H) := by obtain ⟨_, h⟩ := isPtrT_of h; simp [binR, binSem, eqSem, Sm.run, h]
theorem binR_nilnil_pn (h : isPtrT P t = true) : binR P .neq t (some (.ptr none)) (some (.ptr none)) H = some (.bool false, H) := by obtain ⟨_, h⟩ := isPtrT_of h; simp [binR, binSem, eqSem, Sm.run, h]
theorem binR_ptrnil {x : Nat × Nat} (h : isPtrT P t = true) : binR P .eql t (some (.ptr (some x))) (some (.ptr none)) H = some (.bool false, H) := by obtain ⟨_, h⟩ := isPtrT_of h; simp [binR, binSem, eqSem, Sm.run, h]
theorem binR_ptrniln {x : Nat × Nat} (h : isPtrT P t = true) : binR P .neq t (some (.ptr (some x))) (some (.ptr none)) H = some (.bool true, H) := by obtain ⟨_, h⟩ := isPtrT_of h; simp [binR, binSem, eqSem, Sm.run, h]
theorem binR_slnil {x : Option (Nat × Nat)} {n c : Nat} {s : Option Nat} {n' c' : Nat} {s' : Option Nat} (h : isSliceT P t = true) : binR P .eql t (some (.slice x n c s)) (some (.slice none n' c' s')) H = some (.bool x.isNone, H) := by
  obtain ⟨_, h⟩ := isSliceT_of h
  cases x <;> simp [binR, binSem, eqSem, Sm.run, h]
theorem binR_slniln {x : Option (Nat × Nat)} {n c : Nat} {s : Option Nat} {n' c' : Nat} {s' : Option Nat} (h : isSliceT P t = true) : binR P .neq t (some (.slice x n c s)) (some (.slice none n' c' s')) H = some (.bool !x.isNone, H) := by
  obtain ⟨_, h⟩ := isSliceT_of h
  cases x <;> simp [binR, binSem, eqSem, Sm.run, h]
theorem binR_mapnil {x : Option Nat} (h : isMapT P t = true) : binR P .eql t (some (.map x)) (some (.map none)) H = some (.bool x.isNone, H) := by
  obtain ⟨_, _, h⟩ := isMapT_of h
  cases x <;> simp [binR, binSem, eqSem, Sm.run, h]
theorem binR_mapniln {x : Option Nat} (h : isMapT P t = true) : binR P .neq t (some (.map x)) (some (.map none)) H = some (.bool !x.isNone, H) := by
  obtain ⟨_, _, h⟩ := isMapT_of h
  cases x <;> simp [binR, binSem, eqSem, Sm.run, h]

def unR (op : UnOp) : Option AV → Heap → Option (AV × Heap)
  | some v, H => match unSem op v with
    | some u => some (u, H)
    | none => none
  | none, _ => none
theorem opR_un (op : UnOp) (t : TypeId) (x : Operand) : opR P N e (.unOp op t x) H = unR op (ev P (tab N e) x) H := by
  simp only [opR_eq, sem]
  cases ev P (tab N e) x with
  | none => rfl
  | some v => simp only [unR]; cases unSem op v <;> rfl
theorem unR_not {x : Bool} : unR .not (some (.bool x)) H = some (.bool !x, H) := rfl

def extractR (i : Nat) : Option AV → Heap → Option (AV × Heap)
  | some (.tuple vs), H => match vs[i]? with
    | some v => some (v, H)
    | none => none
  | _, _ => none
theorem opR_extract (x : Operand) (i : Nat) : opR P N e (.extract x i) H = extractR i (ev P (tab N e) x) H := by
  simp only [opR_eq, sem]
  cases ev P (tab N e) x with
  | none => rfl
  | some v => cases v <;> first | rfl | (rename_i vs; simp only [extractR]; cases vs[i]? <;> rfl)
theorem extractR_eq (i : Nat) (vs : List AV) : extractR i (some (.tuple vs)) H = match vs[i]? with | some v => some (v, H) | none => none := rfl

def nilCheckR : Option AV → Heap → Option (AV × Heap)
  | some (.ptr (some a)), H => some (.ptr (some a), H)
  | some (.func (.func f) xs ys), H => some (.func (.func f) xs ys, H)
  | _, _ => none
theorem opR_nilCheck (x : Operand) : opR P N e (.nilCheck x) H = nilCheckR (ev P (tab N e) x) H := by
  simp only [opR_eq, sem]
  cases ev P (tab N e) x with
  | none => rfl
  | some v =>
    cases v with
    | ptr a => cases a <;> rfl
    | func f xs ys => cases f <;> rfl
    | _ => rfl
theorem nilCheckR_eq (a : Nat × Nat) : nilCheckR (some (.ptr (some a))) H = some (.ptr (some a), H) := rfl

def fieldAddrR (P : Program) (s : TypeId) (f : Nat) : Option AV → Heap → Option (AV × Heap)
  | some (.ptr (some (b, o))), H => match P.underlying s with
    | some (.struct fields) => match fields[f]? with
      | some fd => if (tsz P fd.type).getD 0 = 0 then none else some (.ptr (some (b, o + fd.offset)), H)
      | none => none
    | _ => none
  | _, _ => none
theorem opR_fieldAddr (s : TypeId) (x : Operand) (f : Nat) : opR P N e (.fieldAddr s x f) H = fieldAddrR P s f (ev P (tab N e) x) H := by
  simp only [opR_eq, sem, fieldAddrR]
  cases ev P (tab N e) x with
  | none => cases P.underlying s with
    | none => rfl
    | some d => cases d <;> rfl
  | some v =>
    cases hu : P.underlying s with
    | none => cases v with
      | ptr a => cases a <;> rfl
      | _ => rfl
    | some d =>
      cases v with
      | ptr a =>
        cases a with
        | none => cases d <;> rfl
        | some q =>
          cases d with
          | struct fields =>
            simp only []
            cases fields[f]? with
            | none => rfl
            | some fd =>
              simp only []
              by_cases h0 : (tsz P fd.type).getD 0 = 0
              · simp only [if_pos h0]
              · simp only [if_neg h0, Sm.run]
          | _ => rfl
      | _ => cases d <;> rfl
theorem fieldAddrR_eq {s : TypeId} {f b o : Nat} : fieldAddrR P s f (some (.ptr (some (b, o)))) H = match P.underlying s with
    | some (.struct fields) => match fields[f]? with
      | some fd => if (tsz P fd.type).getD 0 = 0 then none else some (.ptr (some (b, o + fd.offset)), H)
      | none => none
    | _ => none := rfl

def loadR (P : Program) (t : TypeId) : Option AV → Heap → Option (AV × Heap)
  | some (.ptr (some (b, o))), H => match tagg P t, tsz P t, H.get b with
    | some g, some n, some x => match readVar g n o x with
      | some v => some (v, H)
      | none => none
    | _, _, _ => none
  | _, _ => none
theorem opR_load (t : TypeId) (x : Operand) : opR P N e (.load t x) H = loadR P t (ev P (tab N e) x) H := by
  simp only [opR_eq, sem, loadR]
  cases ev P (tab N e) x with
  | none => rfl
  | some v =>
    cases v with
    | ptr a =>
      cases a with
      | none => rfl
      | some q =>
        obtain ⟨b, o⟩ := q
        simp only []
        cases tagg P t with
        | none => rfl
        | some g =>
          cases tsz P t with
          | none => rfl
          | some n =>
            simp only [Sm.run, mapOpt]
            cases H.get b with
            | none => rfl
            | some x => rfl
    | _ => rfl
theorem loadR_eq {b o n : Nat} {g : Bool} {x : AObj} (hg : tagg P t = some g) (hn : tsz P t = some n) (hx : H.get b = some x) : loadR P t (some (.ptr (some (b, o)))) H = match readVar g n o x with | some v => some (v, H) | none => none := by
  simp [loadR, hg, hn, hx]

def storeR (P : Program) (t : TypeId) : Option AV → Option AV → Heap → Option (AV × Heap)
  | some (.ptr (some (b, o))), some v, H => if tsz P t = some v.cells.length then match writeCells H b o v.cells with
      | some H' => some (.undef, H')
      | none => none
    else none
  | _, _, _ => none
theorem opR_store (t : TypeId) (x y : Operand) : opR P N e (.store t x y) H = storeR P t (ev P (tab N e) x) (ev P (tab N e) y) H := by
  simp only [opR_eq, sem, storeR]
  cases ev P (tab N e) x with
  | none => rfl
  | some v =>
    cases v with
    | ptr a =>
      cases a with
      | none => rfl
      | some q =>
        obtain ⟨b, o⟩ := q
        cases ev P (tab N e) y with
        | none => rfl
        | some y =>
          simp only []
          cases tsz P t with
          | none => simp
          | some n =>
            simp only [Option.some.injEq]
            by_cases h : n = y.cells.length
            · subst h; rw [if_pos rfl, if_neg (fun h => h rfl)]; simp only [Sm.run]; cases writeCells H b o y.cells <;> rfl
            · rw [if_neg h, if_pos (fun hh => h hh.symm)]
    | _ => rfl
theorem storeR_eq {b o n : Nat} {v : AV} (hn : tsz P t = some v.cells.length) : storeR P t (some (.ptr (some (b, o)))) (some v) H = match writeCells H b o v.cells with | some H' => some (.undef, H') | none => none := by
  simp [storeR, hn]

theorem opR_alloc (t : TypeId) {z : AV} (h : tzero P t = some z) : opR P N e (.alloc t) H = some (.ptr (some (H.next, 0)), H.push (.cells z.cells t true false)) := by
  simp only [opR_eq, sem, h, Option.map_some, Sm.run]

def boxR (t : TypeId) : Option AV → Heap → Option (AV × Heap)
  | some v, H => some (.ptr (some (H.next, 0)), H.push (.cells v.cells t true false))
  | none, _ => none
theorem opR_box (t : TypeId) (x : Operand) : opR P N e (.box t x) H = boxR t (ev P (tab N e) x) H := by
  simp only [opR_eq, sem]
  cases ev P (tab N e) x <;> rfl
theorem boxR_some (v : AV) : boxR t (some v) H = some (.ptr (some (H.next, 0)), H.push (.cells v.cells t true false)) := rfl

def buildR (P : Program) (t : TypeId) : Option (List (Nat × AV)) → Heap → Option (AV × Heap)
  | some ps, H => match buildA P t ps with
    | some v => some (v, H)
    | none => none
  | none, _ => none
theorem opR_build (t : TypeId) (parts : Array (Nat × Operand)) : opR P N e (.build t parts) H = buildR P t (evParts P (tab N e) parts.toList) H := by
  simp only [opR_eq, sem]
  cases evParts P (tab N e) parts.toList with
  | none => rfl
  | some ps => simp only [buildR]; cases buildA P t ps <;> rfl
theorem buildR_some (ps : List (Nat × AV)) {v : AV} (h : buildA P t ps = some v) : buildR P t (some ps) H = some (v, H) := by simp [buildR, h]

def buildSliceR (P : Program) (t : TypeId) (n : Nat) : Option (List (Nat × AV)) → Heap → Option (AV × Heap)
  | some ps, H => match buildSliceA P t n ps with
    | some s => s.run H
    | none => none
  | none, _ => none
theorem opR_buildSlice (t : TypeId) (n : Nat) (parts : Array (Nat × Operand)) : opR P N e (.buildSlice t n parts) H = buildSliceR P t n (evParts P (tab N e) parts.toList) H := by
  simp only [opR_eq, sem]
  cases evParts P (tab N e) parts.toList <;> rfl
theorem buildSliceR_eq (t : TypeId) (n : Nat) (ps : List (Nat × AV)) : buildSliceR P t n (some ps) H = match buildSliceA P t n ps with | some s => s.run H | none => none := rfl
theorem buildR_eq (ps : List (Nat × AV)) : buildR P t (some ps) H = match buildA P t ps with | some v => some (v, H) | none => none := rfl

def indexAddrR (P : Program) (t : TypeId) : Option AV → Option AV → Heap → Option (AV × Heap)
  | some a, some b, H => match indexAddrSem P t a b with
    | some v => some (v, H)
    | none => none
  | _, _, _ => none
theorem opR_indexAddr (t : TypeId) (x y : Operand) : opR P N e (.indexAddr t x y) H = indexAddrR P t (ev P (tab N e) x) (ev P (tab N e) y) H := by
  simp only [opR_eq, sem]
  cases ev P (tab N e) x with
  | none => cases ev P (tab N e) y <;> rfl
  | some a => cases ev P (tab N e) y with
    | none => rfl
    | some b => simp only [indexAddrR]; cases indexAddrSem P t a b <;> rfl
/-- the cells of an element of a slice's type; of an array's type, and how many elements -/
def elemS (P : Program) (t : TypeId) : Option Nat := match P.underlying t with | some (.slice u) => tsz P u | _ => none
def elemA (P : Program) (t : TypeId) : Option (Nat × Nat) := match P.underlying t with | some (.array n u) => (tsz P u).map fun s => (n, s) | _ => none
theorem indexAddrR_slice {t : TypeId} {b o n c : Nat} {sl : Option Nat} {k : IntKind} {i : Int} : indexAddrR P t (some (.slice (some (b, o)) n c sl)) (some (.int k i)) H =
    match elemS P t with
    | some s => if 0 ≤ i ∧ i < n then some (.ptr (some (b, o + i.toNat * s)), H) else none
    | none => none := by
  unfold indexAddrR indexAddrSem elemS
  cases P.underlying t with
  | none => rfl
  | some d =>
    cases d with
    | slice u =>
      simp only []
      cases tsz P u with
      | none => rfl
      | some s => simp only []; by_cases h : 0 ≤ i ∧ i < n <;> simp [h]
    | _ => rfl
theorem indexAddrR_array {t : TypeId} {b o : Nat} {k : IntKind} {i : Int} : indexAddrR P t (some (.ptr (some (b, o)))) (some (.int k i)) H =
    match elemA P t with
    | some (n, s) => if 0 ≤ i ∧ i < n then some (.ptr (some (b, o + i.toNat * s)), H) else none
    | none => none := by
  unfold indexAddrR indexAddrSem elemA
  cases P.underlying t with
  | none => rfl
  | some d =>
    cases d with
    | array n u =>
      simp only []
      cases tsz P u with
      | none => rfl
      | some s => simp only [Option.map_some]; by_cases h : 0 ≤ i ∧ i < n <;> simp [h]
    | _ => rfl

/-! builtins -/
def builtinR (P : Program) (b : Builtin) (ts : Array TypeId) : Option (List AV) → Heap → Option (AV × Heap)
  | some args, H => match builtinSem P b ts args with
    | some s => s.run H
    | none => none
  | none, _ => none
theorem opR_builtin (b : Builtin) (xs : Array Operand) (ts : Array TypeId) : opR P N e (.call { callee := .builtin b, args := xs, argTypes := ts }) H = builtinR P b ts (mapOpt (ev P (tab N e)) xs.toList) H := by
  simp only [opR_eq, sem, callSem]
  cases mapOpt (ev P (tab N e)) xs.toList <;> rfl
theorem len_slice {ts : Array TypeId} {x : Option (Nat × Nat)} {n c : Nat} {s : Option Nat} (h : firstT isSliceT P ts = true) :
    builtinR P .len ts (some [.slice x n c s]) H = some (.int .i64 n, H) := by
  obtain ⟨t, ht, h⟩ := firstT_of h
  obtain ⟨_, hu⟩ := isSliceT_of h
  simp [builtinR, builtinSem, lenSem, ht, hu, Sm.run]
theorem len_str {ts : Array TypeId} {x : List UInt8} (h : firstT isStrT P ts = true) :
    builtinR P .len ts (some [.str x]) H = some (.int .i64 x.length, H) := by
  obtain ⟨t, ht, h⟩ := firstT_of h
  have hu := isStrT_of h
  simp [builtinR, builtinSem, lenSem, ht, hu, Sm.run]
theorem len_mapnil {ts : Array TypeId} (h : firstT isMapT P ts = true) :
    builtinR P .len ts (some [.map none]) H = some (.int .i64 0, H) := by
  obtain ⟨t, ht, h⟩ := firstT_of h
  obtain ⟨_, _, hu⟩ := isMapT_of h
  simp [builtinR, builtinSem, lenSem, ht, hu, Sm.run]
theorem len_map {ts : Array TypeId} {r : Nat} {es : List (AV × AV)} (h : firstT isMapT P ts = true) (hr : H.get r = some (.map es)) :
    builtinR P .len ts (some [.map (some r)]) H = some (.int .i64 es.length, H) := by
  obtain ⟨t, ht, h⟩ := firstT_of h
  obtain ⟨_, _, hu⟩ := isMapT_of h
  simp [builtinR, builtinSem, lenSem, ht, hu, Sm.run, mapOpt, hr]
theorem min_two {ts : Array TypeId} {k : IntKind} {a b : Int} : builtinR P .min ts (some [.int k a, .int k b]) H = some (.int k (if b < a then b else a), H) := by simp [builtinR, builtinSem, minA, Sm.run]
theorem max_two {ts : Array TypeId} {k : IntKind} {a b : Int} : builtinR P .max ts (some [.int k a, .int k b]) H = some (.int k (if b > a then b else a), H) := by simp [builtinR, builtinSem, maxA, Sm.run]

theorem mapOpt_nil {α β : Type} (f : α → Option β) : mapOpt f [] = some [] := rfl
theorem mapOpt_cons {α β : Type} {f : α → Option β} {x : α} {xs : List α} {y : β} {ys : List β} (h : f x = some y) (hs : mapOpt f xs = some ys) : mapOpt f (x :: xs) = some (y :: ys) := by simp [mapOpt, h, hs]
theorem evParts_nil : evParts P (tab N e) [] = some [] := rfl
theorem evParts_cons {i : Nat} {x : Operand} {r : List (Nat × Operand)} {v : AV} {vs : List (Nat × AV)} (h : ev P (tab N e) x = some v) (hs : evParts P (tab N e) r = some vs) : evParts P (tab N e) ((i, x) :: r) = some ((i, v) :: vs) := by simp [evParts, h, hs]

end
attribute [irreducible] indexAddrR boxR buildSliceR buildR builtinR mvR pickR binR unR extractR nilCheckR fieldAddrR loadR storeR
end Go.Abs
