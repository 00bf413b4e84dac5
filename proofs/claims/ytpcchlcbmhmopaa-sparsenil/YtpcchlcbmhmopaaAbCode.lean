/- The abstract machine's run of a region that draws its order, of a body, of a call. -/
import Derived.Test.YtpcchlcbmhmopaaAbRun
namespace Go.Abs

/-! ## a region that draws its order: run in one order, with a look whether another one could tell -/
def isHeavy (P : Program) : Op → Bool
  | .store _ _ _ | .mapUpdate _ _ _ _ | .insert _ _ _ _ => true
  | .call c => match c.callee with
    | .builtin b => match b with
      | .append | .copy | .clear | .delete => true
      | _ => false
    | _ => true
  | .convert src dst _ => match P.underlying src, P.underlying dst with
    | some (.slice _), some (.slice _) => true
    | _, _ => false
  | _ => false

def bitsOf (l : List Nat) : Nat := l.foldl (fun s i => s ||| 2 ^ i) 0

/-- What must be done ahead of each operation, as bits. -/
def befores (ops : Array Oper) : Array Nat := Region.before ops

def heavies (P : Program) : List Oper → Nat → List Nat
  | [], _ => []
  | o :: os, i => if isHeavy P o.op then i :: heavies P os (i + 1) else heavies P os (i + 1)

/-- The order in which it is run: each heavy operation as soon as it can, the others as late as they can. -/
def canonGo (b : Array Nat) (n : Nat) : List Nat → Nat → List Nat
  | [], done => (List.range n).filter fun i => !done.testBit i
  | h :: hs, done =>
    let ls := (List.range n).filter fun i => (b.getD h 0).testBit i && !done.testBit i
    ls ++ h :: canonGo b n hs ((done ||| bitsOf ls) ||| 2 ^ h)

def preds (o : Oper) : List Nat := (o.after.toList.filter fun e => Region.binds .any e).map (·.on)

/-- The bits are those of the edges, and of what they lead to. -/
def closedOk (ops : Array Oper) (b : Array Nat) : Bool :=
  ops.toList.zipIdx.all fun (o, i) => b.getD i 0 == (preds o).foldl (fun s k => s ||| 2 ^ k ||| b.getD k 0) 0

def edgesOk (ops : Array Oper) : Bool :=
  ops.toList.zipIdx.all fun (o, i) => (preds o).all fun k => k < i

def dstsOf (ops : List Oper) : List Tmp := ops.filterMap (·.dst)

def nodupB : List Nat → Bool
  | [] => true
  | x :: xs => !xs.contains x && nodupB xs

/-- Whoever looks at what an operation of the region writes comes behind it, or ahead of it, in every order. -/
def looksOk (ops : Array Oper) (b : Array Nat) : Bool :=
  ops.toList.zipIdx.all fun (o, i) => ops.toList.zipIdx.all fun (p, j) =>
    i == j || (match p.dst with
      | none => true
      | some d => !(o.looksAt ops).contains d || (b.getD i 0).testBit j || (b.getD j 0).testBit i)

/-- The order keeps the edges; ahead of a heavy operation stands only what must. -/
def canonOk (P : Program) (ops : Array Oper) (b : Array Nat) : List Nat → Nat → Bool
  | [], _ => true
  | i :: is, done =>
    (b.getD i 0 ||| done) == done && (match ops[i]? with
      | some o => !isHeavy P o.op || (done ||| b.getD i 0) == b.getD i 0
      | none => false) && canonOk P ops b is (done ||| 2 ^ i)

def drawOk (P : Program) (ops : Array Oper) (b : Array Nat) (c : List Nat) : Bool :=
  edgesOk ops && closedOk ops b && nodupB (dstsOf ops.toList) && looksOk ops b && nodupB c && c.length == ops.size && canonOk P ops b c 0

def sameIn (H : Heap) (n0 : Nat) (snaps : List Heap) (b : Nat) : Bool :=
  b < n0 && match H.get b with
    | some o => snaps.all fun S => match S.get b with
      | some o' => AObj.beq o' o
      | none => false
    | none => false

structure St where
  T : List AV
  H : Heap
  snaps : List Heap

/-- What an operation that is not heavy comes to: its value, and the block that it makes. -/
def lightRes (P : Program) (call : CallFn) (ops : Array Oper) (b : Array Nat) (hv : List Nat) (n0 : Nat) (i : Nat) (o : Oper) (s : St) : Option (AV × Option AObj) :=
  if wantedA ops s.T o then
    match sem P call s.T o.op with
    | none => none
    | some (.heavy _) => none
    | some (.pure v) => some (v, none)
    | some (.alloc x mk) => some (mk s.H.next, some x)
    | some (.read bs k) =>
      let lo := (hv.filter fun h => (b.getD i 0).testBit h).length
      let m := s.snaps.length - lo
      if bs.all (fun x => decide (x < s.H.next)) && (m ≤ 1 || bs.all (sameIn s.H n0 (s.snaps.take m))) then
        match mapOpt s.H.get bs with
        | some os => match k os with
          | some v => some (v, none)
          | none => none
        | none => none
      else none
  else some (.undef, none)

def pushO (H : Heap) : Option AObj → Heap
  | none => H
  | some o => H.push o

def dstep (P : Program) (call : CallFn) (ops : Array Oper) (b : Array Nat) (hv : List Nat) (n0 : Nat) (i : Nat) (s : St) : Option St :=
  match ops[i]? with
  | none => none
  | some o =>
    if isHeavy P o.op then
      if wantedA ops s.T o then
        match runOp P call s.T o s.H with
        | some (v, H') => some { T := put s.T o.dst v, H := H', snaps := H' :: s.snaps }
        | none => none
      else some { T := put s.T o.dst .undef, H := s.H, snaps := s.H :: s.snaps }
    else
      match lightRes P call ops b hv n0 i o s with
      | some (v, x) => some { T := put s.T o.dst v, H := pushO s.H x, snaps := s.snaps }
      | none => none

def drun (P : Program) (call : CallFn) (ops : Array Oper) (b : Array Nat) (hv : List Nat) (n0 : Nat) : List Nat → St → Option St
  | [], s => some s
  | i :: is, s => match dstep P call ops b hv n0 i s with
    | some s' => drun P call ops b hv n0 is s'
    | none => none

def drawRun (P : Program) (call : CallFn) (ops : Array Oper) (b : Array Nat) (hv c : List Nat) (T : List AV) (H : Heap) : Option (List AV × Heap) :=
  if drawOk P ops b c then
    match drun P call ops b hv H.next c { T := T, H := H, snaps := [H] } with
    | some s => some (s.T, s.H)
    | none => none
  else none

def runRegion (P : Program) (call : CallFn) (ops : Array Oper) (draw : Bool) (T : List AV) (H : Heap) : Option (List AV × Heap) :=
  if draw then drawRun P call ops (befores ops) (heavies P ops.toList 0) (canonGo (befores ops) ops.size (heavies P ops.toList 0) 0) T H
  else runOps P call ops ops.toList T H

/-! ## bodies -/
inductive AX where
  | normal
  | exit (id : Nat)
  | ret

abbrev Out := Option (AX × List AV × Heap)

def runLoop (f : List AV → Heap → Out) : Nat → List AV → Heap → Out
  | 0, _, _ => none
  | n + 1, T, H => match f T H with
    | some (.normal, T', H') => runLoop f n T' H'
    | r => r

def runCode (P : Program) (call : CallFn) (n : Nat) : Code → List AV → Heap → Out
  | .skip, T, H => some (.normal, T, H)
  | .label _, T, H => some (.normal, T, H)
  | .region _ ops draw, T, H => match runRegion P call ops draw T H with
    | some (T', H') => some (.normal, T', H')
    | none => none
  | .seq a b, T, H => match runCode P call n a T H with
    | some (.normal, T', H') => runCode P call n b T' H'
    | r => r
  | .cond c x y, T, H => match ev P T c with
    | some (.bool true) => runCode P call n x T H
    | some (.bool false) => runCode P call n y T H
    | _ => none
  | .block id body, T, H => match runCode P call n body T H with
    | some (.exit id', T', H') => if id' = id then some (.normal, T', H') else some (.exit id', T', H')
    | r => r
  | .loop body, T, H => runLoop (runCode P call n body) n T H
  | .exit id, T, H => some (.exit id, T, H)
  | .scope body, T, H => runCode P call n body T H
  | .ret, T, H => some (.ret, T, H)
  | _, _, _ => none

def resultsA (P : Program) (T : List AV) (H : Heap) : List ResultVar → Option (List AV)
  | [] => some []
  | .tmp t :: rs => match resultsA P T H rs with
    | some vs => some (T.getD t .undef :: vs)
    | none => none
  | .cell a t :: rs => match T.getD a .undef, tagg P t, tsz P t with
    | .ptr (some (b, o)), some g, some n => match H.get b with
      | some x => match readVar g n o x, resultsA P T H rs with
        | some v, some vs => some (v :: vs)
        | _, _ => none
      | none => none
    | _, _, _ => none

def tupled : List AV → AV
  | [v] => v
  | vs => .tuple vs

abbrev Prims := FuncId → Option (List AV → Heap → Option (AV × Heap))

def runBody (P : Program) (call : CallFn) (n : Nat) (fn : Func) (args : List AV) (H : Heap) : Option (AV × Heap) :=
  match fn.body with
  | none => none
  | some c => match runCode P call n c (args ++ List.replicate (fn.ntmps - args.length) .undef) H with
    | some (.normal, T, H') | some (.ret, T, H') => match resultsA P T H' fn.results.toList with
      | some vs => some (tupled vs, H')
      | none => none
    | _ => none

def acall (P : Program) (prims : Prims) : Nat → CallFn
  | 0, _, _, _ => none
  | n + 1, f, args, H => match prims f with
    | some g => g args H
    | none => match P.funcs[f]? with
      | some fn => runBody P (acall P prims n) n fn args H
      | none => none

def noPrims : Prims := fun _ => none

/-- Memory without a block of the run's own: numbers below G are the package-level variables'. -/
def Heap.start (G : Nat) : Heap := { next := G, tree := .leaf }

end Go.Abs
