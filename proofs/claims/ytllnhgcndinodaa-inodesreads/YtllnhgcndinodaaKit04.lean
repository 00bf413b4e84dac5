/- Texts on the abstract machine, joined. -/
import Derived.Test.YtllnhgcndinodaaKit03
import Derived.Test.YtllnhgcndinodaaKit02
import Derived.Laws.Externs

/- The walking kit, third part: texts and arrays cut and indexed, what is made, maps by whole numbers, copies. -/
namespace Go.Abs
set_option linter.unusedVariables false
set_option linter.unusedSimpArgs false

section
variable {P : Program} {N : Nat} {e : Nat → AV} {H : Heap}

/-! ## cuts of texts and arrays -/
def sliceX (P : Program) (t : TypeId) (v : AV) (lo hi : Option AV) (H : Heap) : Option (AV × Heap) := sliceR P t (some v) (some lo) (some hi) (some none) H
def cutS (x : List UInt8) (l h : Int) (H : Heap) : Option (AV × Heap) := if 0 ≤ l ∧ l ≤ h ∧ h ≤ x.length then some (.str ((x.take h.toNat).drop l.toNat), H) else none
theorem slcS_all {t : TypeId} {x : List UInt8} {lo hi : Option AV} {l h : Int} (hl : bnd lo 0 = some l) (hh : bnd hi x.length = some h) :
    sliceR P t (some (.str x)) (some lo) (some hi) (some none) H = if isStrT P t then cutS x l h H else sliceX P t (.str x) lo hi H := by
  by_cases ht : isStrT P t = true
  · rw [if_pos ht]
    unfold cutS
    by_cases hc : 0 ≤ l ∧ l ≤ h ∧ h ≤ x.length
    · rw [if_pos hc]; exact slcS_gen ht hl hh hc
    · rw [if_neg hc]
      have hu := isStrT_of ht
      have e4 := boundsA_no (len := x.length) (cap := x.length) (mx := none) (m := x.length) hl (by simpa using hh) rfl (Nat.le_refl _) (by simp) (by omega)
      unfold sliceR
      simp only [sliceSem, hu, e4]
  · rw [if_neg ht]; rfl
theorem slcS_l {t : TypeId} {x : List UInt8} {k : IntKind} {l : Int} : sliceR P t (some (.str x)) (some (some (.int k l))) (some none) (some none) H = if isStrT P t then cutS x l x.length H else sliceX P t (.str x) (some (.int k l)) none H := slcS_all rfl rfl
theorem slcS_h {t : TypeId} {x : List UInt8} {k : IntKind} {h : Int} : sliceR P t (some (.str x)) (some none) (some (some (.int k h))) (some none) H = if isStrT P t then cutS x 0 h H else sliceX P t (.str x) none (some (.int k h)) H := slcS_all rfl rfl
theorem slcS_lh {t : TypeId} {x : List UInt8} {k j : IntKind} {l h : Int} : sliceR P t (some (.str x)) (some (some (.int k l))) (some (some (.int j h))) (some none) H = if isStrT P t then cutS x l h H else sliceX P t (.str x) (some (.int k l)) (some (.int j h)) H := slcS_all rfl rfl
theorem cutS_ok {x : List UInt8} {l h : Int} (hc : 0 ≤ l ∧ l ≤ h ∧ h ≤ x.length) : cutS x l h H = some (.str ((x.take h.toNat).drop l.toNat), H) := by unfold cutS; rw [if_pos hc]

def cutA (b o n s : Nat) (l h : Int) (H : Heap) : Option (AV × Heap) := if 0 ≤ l ∧ l ≤ h ∧ h ≤ n then some (.slice (some (b, o + l.toNat * s)) (h - l).toNat (n - l).toNat none, H) else none
theorem slcA_all {t : TypeId} {b o : Nat} {lo hi : Option AV} {l : Int} (h : Nat → Int) (hl : bnd lo 0 = some l) (hh : ∀ n : Nat, bnd hi n = some (h n)) :
    sliceR P t (some (.ptr (some (b, o)))) (some lo) (some hi) (some none) H = match elemA P t with | some (n, s) => cutA b o n s l (h n) H | none => sliceX P t (.ptr (some (b, o))) lo hi H := by
  cases ha : elemA P t with
  | none => rfl
  | some p =>
    obtain ⟨n, s⟩ := p
    simp only []
    unfold cutA
    by_cases hc : 0 ≤ l ∧ l ≤ h n ∧ h n ≤ n
    · rw [if_pos hc]; exact slcA_gen ha hl (hh n) hc
    · rw [if_neg hc]
      unfold elemA at ha
      split at ha
      · rename_i n' u hu
        cases hz : tsz P u with
        | none => simp [hz] at ha
        | some s' =>
          simp [hz] at ha
          obtain ⟨rfl, rfl⟩ := ha
          have e4 := boundsA_no (len := n') (cap := n') (mx := none) (m := n') hl (by simpa using hh n') rfl (Nat.le_refl _) (by simp) (by omega)
          unfold sliceR
          simp only [sliceSem, hu, e4]
      · cases ha
theorem slcA_l {t : TypeId} {b o : Nat} {k : IntKind} {l : Int} : sliceR P t (some (.ptr (some (b, o)))) (some (some (.int k l))) (some none) (some none) H = match elemA P t with | some (n, s) => cutA b o n s l n H | none => sliceX P t (.ptr (some (b, o))) (some (.int k l)) none H := slcA_all (fun n => n) rfl fun _ => rfl
theorem slcA_h {t : TypeId} {b o : Nat} {k : IntKind} {h : Int} : sliceR P t (some (.ptr (some (b, o)))) (some none) (some (some (.int k h))) (some none) H = match elemA P t with | some (n, s) => cutA b o n s 0 h H | none => sliceX P t (.ptr (some (b, o))) none (some (.int k h)) H := slcA_all (fun _ => h) rfl fun _ => rfl
theorem slcA_lh {t : TypeId} {b o : Nat} {k j : IntKind} {l h : Int} : sliceR P t (some (.ptr (some (b, o)))) (some (some (.int k l))) (some (some (.int j h))) (some none) H = match elemA P t with | some (n, s) => cutA b o n s l h H | none => sliceX P t (.ptr (some (b, o))) (some (.int k l)) (some (.int j h)) H := slcA_all (fun _ => h) rfl fun _ => rfl
theorem slcA_0 {t : TypeId} {b o : Nat} : sliceR P t (some (.ptr (some (b, o)))) (some none) (some none) (some none) H = match elemA P t with | some (n, s) => cutA b o n s 0 n H | none => sliceX P t (.ptr (some (b, o))) none none H := slcA_all (fun n => n) rfl fun _ => rfl
theorem cutA_ok {b o n s : Nat} {l h : Int} (hc : 0 ≤ l ∧ l ≤ h ∧ h ≤ n) : cutA b o n s l h H = some (.slice (some (b, o + l.toNat * s)) (h - l).toNat (n - l).toNat none, H) := by unfold cutA; rw [if_pos hc]
theorem slc_0 {t : TypeId} {a : Option (Nat × Nat)} {len cap : Nat} {ex : Option Nat} (hc : len ≤ cap) : sliceR P t (some (.slice a len cap ex)) (some none) (some none) (some none) H = match elemS P t with | some s => slcR s a cap ex false 0 len cap H | none => none := by
  cases hs : elemS P t with
  | some s => exact sliceR_slice hs rfl rfl rfl hc (by simp)
  | none => unfold elemS at hs; unfold sliceR; simp only [sliceSem]; split at hs <;> simp_all

/-! ## elements by value -/
def indexR (P : Program) (t : TypeId) : Option AV → Option AV → Heap → Option (AV × Heap)
  | some a, some b, H => match indexSem P t a b with
    | some v => some (v, H)
    | none => none
  | _, _, _ => none
theorem opR_index (t : TypeId) (x y : Operand) : opR P N e (.index t x y) H = indexR P t (ev P (tab N e) x) (ev P (tab N e) y) H := by
  simp only [opR_eq, sem]
  cases ev P (tab N e) x with
  | none => cases ev P (tab N e) y <;> rfl
  | some a => cases ev P (tab N e) y with
    | none => rfl
    | some b => simp only [indexR]; cases indexSem P t a b <;> rfl
def indexX (P : Program) (t : TypeId) (a b : AV) (H : Heap) : Option (AV × Heap) := indexR P t (some a) (some b) H
def byteAt (x : List UInt8) (i : Int) (H : Heap) : Option (AV × Heap) := if 0 ≤ i ∧ i < x.length then some (.int .u8 (x.getD i.toNat 0).toNat, H) else none
theorem indexR_str {t : TypeId} {x : List UInt8} {k : IntKind} {i : Int} : indexR P t (some (.str x)) (some (.int k i)) H = if isStrT P t then byteAt x i H else indexX P t (.str x) (.int k i) H := by
  by_cases h : isStrT P t = true
  · rw [if_pos h]
    have hu := isStrT_of h
    simp only [indexR, indexSem, hu, byteAt]
    by_cases h0 : 0 ≤ i
    · rw [if_pos h0]
      by_cases h1 : i < x.length
      · rw [if_pos ⟨h0, h1⟩]
        have : x[i.toNat]? = some (x[i.toNat]'(by omega)) := List.getElem?_eq_getElem (by omega)
        rw [this]
        simp [List.getD, this]
      · rw [if_neg (by omega)]
        rw [List.getElem?_eq_none (by omega)]
    · rw [if_neg h0, if_neg (by omega)]
  · rw [if_neg h]; rfl
theorem byteAt_ok {x : List UInt8} {i : Int} (h : 0 ≤ i ∧ i < x.length) : byteAt x i H = some (.int .u8 (x.getD i.toNat 0).toNat, H) := by unfold byteAt; rw [if_pos h]
theorem indexR_arr {t : TypeId} {cs : List AV} {k : IntKind} {i : Int} : indexR P t (some (.agg cs)) (some (.int k i)) H = match P.underlying t with
    | some (.array len elem) => (match tsz P elem with
      | some size => if 0 ≤ i ∧ i < len then (match partA P elem cs (i.toNat * size) with | some v => some (v, H) | none => none) else none
      | none => none)
    | _ => none := by
  simp only [indexR, indexSem]
  cases P.underlying t with
  | none => rfl
  | some d =>
    cases d with
    | array len elem =>
      simp only []
      cases tsz P elem with
      | none => rfl
      | some s =>
        simp only []
        by_cases h : 0 ≤ i ∧ i < len
        · rw [if_pos h, if_pos h]
        · rw [if_neg h, if_neg h]
    | _ => rfl

/-! ## a field by value -/
def fieldR (P : Program) (t : TypeId) (f : Nat) : Option AV → Heap → Option (AV × Heap)
  | some (.agg cs), H => match P.underlying t with
    | some (.struct fields) => (match fields[f]? with
      | some fd => (match partA P fd.type cs fd.offset with | some v => some (v, H) | none => none)
      | none => none)
    | _ => none
  | _, _ => none
theorem opR_field (t : TypeId) (x : Operand) (f : Nat) : opR P N e (.field t x f) H = fieldR P t f (ev P (tab N e) x) H := by
  simp only [opR_eq, sem]
  cases hu : P.underlying t with
  | none => cases ev P (tab N e) x with
    | none => rfl
    | some v => cases v <;> simp [fieldR, hu]
  | some d =>
    cases d with
    | struct fields =>
      cases ev P (tab N e) x with
      | none => rfl
      | some v =>
        cases v with
        | agg cs =>
          simp only [fieldR, hu]
          cases fields[f]? with
          | none => rfl
          | some fd => simp only []; cases partA P fd.type cs fd.offset <;> rfl
        | _ => simp [fieldR]
    | _ =>
      cases ev P (tab N e) x with
      | none => rfl
      | some v => cases v <;> simp [fieldR, hu]
theorem fieldR_agg {t : TypeId} {f : Nat} {cs : List AV} : fieldR P t f (some (.agg cs)) H = match P.underlying t with
    | some (.struct fields) => (match fields[f]? with
      | some fd => (match partA P fd.type cs fd.offset with | some v => some (v, H) | none => none)
      | none => none)
    | _ => none := rfl
theorem partA_eq (t : TypeId) (cs : List AV) (off : Nat) : partA P t cs off = match tagg P t, tsz P t with
  | some true, some n => if off + n ≤ cs.length then some (.agg ((cs.drop off).take n)) else none
  | some false, _ => cs[off]?
  | _, _ => none := rfl

/-! ## what is made -/
def mapT (P : Program) (t : TypeId) : Bool := match P.underlying t with | some (.map _ _) => true | _ => false
theorem opR_makeMap {t : TypeId} : opR P N e (.makeMap t none) H = if mapT P t then some (.map (some H.next), H.push (.map [])) else none := by
  by_cases h : ∃ k u, P.underlying t = some (.map k u)
  · obtain ⟨k, u, hu⟩ := h
    simp [opR_eq, sem, mapT, hu, Sm.run]
  · have hm : mapT P t = false := by
      unfold mapT
      split
      · exact absurd ⟨_, _, by assumption⟩ h
      · rfl
    have hn : sem P noCall (tab N e) (.makeMap t none) = none := by
      simp only [sem]
      split
      · exact absurd ⟨_, _, by assumption⟩ h
      · exact absurd ⟨_, _, by assumption⟩ h
      · rfl
    simp [opR_eq, hn, hm]
def makeSliceR (P : Program) (t : TypeId) : Option AV → Option AV → Heap → Option (AV × Heap)
  | some a, some b, H => match makeSliceSem P t a b with
    | some s => s.run H
    | none => none
  | _, _, _ => none
theorem opR_makeSlice (t : TypeId) (x y : Operand) : opR P N e (.makeSlice t x y) H = makeSliceR P t (ev P (tab N e) x) (ev P (tab N e) y) H := by
  simp only [opR_eq, sem]
  cases ev P (tab N e) x with
  | none => cases ev P (tab N e) y <;> rfl
  | some a => cases ev P (tab N e) y <;> rfl
/-- what making elements of a type wants: its type, bytes, cells, zero -/
def elemF (P : Program) (t : TypeId) : Option (TypeId × Nat × Nat × List AV) := match P.underlying t with
  | some (.slice u) => (match tbytes P u, tsz P u, tzero P u with
    | some bytes, some size, some z => if z.cells.length = size then some (u, bytes, size, z.cells) else none
    | _, _, _ => none)
  | _ => none
theorem makeSliceR_eq {t : TypeId} {k j : IntKind} {l c : Int} {u : TypeId} {bytes size : Nat} {z : List AV} (hf : elemF P t = some (u, bytes, size, z)) (h : 0 ≤ l ∧ l ≤ c ∧ c ≤ 2 ^ 47 ∧ bytes * c ≤ 2 ^ 48) :
    makeSliceR P t (some (.int k l)) (some (.int j c)) H = some (.slice (some (H.next, 0)) l.toNat c.toNat none, H.push (.cells (zeros z c.toNat) u true false)) := by
  unfold elemF at hf
  split at hf
  · rename_i u' hu
    split at hf
    · rename_i b' s' z' h1 h2 h3
      split at hf
      · rename_i hz
        injection hf with hf
        simp only [Prod.mk.injEq] at hf
        obtain ⟨rfl, rfl, rfl, rfl⟩ := hf
        simp only [makeSliceR, makeSliceSem, hu, h1, h2, h3]
        rw [if_pos ⟨h.1, h.2.1, h.2.2.1, h.2.2.2, hz⟩]
        rfl
      · cases hf
    · cases hf
  · cases hf

def makeFuncR (fn : Fn) : Option (List AV) → Option (List AV) → Heap → Option (AV × Heap)
  | some a, some b, H => some (.func fn a b, H)
  | _, _, _ => none
theorem opR_makeFunc (fn : Fn) (first captured : Array Operand) : opR P N e (.makeFunc fn first captured) H = makeFuncR fn (mapOpt (ev P (tab N e)) first.toList) (mapOpt (ev P (tab N e)) captured.toList) H := by
  simp only [opR_eq, sem]
  cases mapOpt (ev P (tab N e)) first.toList <;> cases mapOpt (ev P (tab N e)) captured.toList <;> rfl
theorem makeFuncR_some (fn : Fn) (a b : List AV) : makeFuncR fn (some a) (some b) H = some (.func fn a b, H) := rfl

/-! ## maps by whole numbers -/
def imap (k : IntKind) (l : List (Int × AV)) : List (AV × AV) := l.map fun p => (.int k p.1, p.2)
def iget {α : Type} (n : Int) : List (Int × α) → Option α
  | [] => none
  | (x, v) :: r => if x = n then some v else iget n r
def iset {α : Type} (n : Int) (v : α) : List (Int × α) → List (Int × α)
  | [] => [(n, v)]
  | (x, u) :: r => if x = n then (n, v) :: r else (x, u) :: iset n v r
def idel {α : Type} (n : Int) : List (Int × α) → List (Int × α)
  | [] => []
  | (x, u) :: r => if x = n then r else (x, u) :: idel n r
/-- No key stands twice. -/
def ionce {α : Type} : List (Int × α) → Prop
  | [] => True
  | (x, _) :: r => iget x r = none ∧ ionce r
section
variable {α : Type}
theorem iget_iset {k x : Int} {v : α} : ∀ {l : List (Int × α)}, iget x (iset k v l) = if k = x then some v else iget x l
  | [] => by simp [iset, iget]
  | (y, u) :: r => by
    by_cases e : y = k
    · subst e
      by_cases e2 : y = x
      · simp [iset, iget, e2]
      · simp [iset, iget, e2]
    · simp only [iset, if_neg e, iget]
      rw [iget_iset]
      by_cases e2 : y = x
      · subst e2
        rw [if_pos rfl, if_neg (fun h => e h.symm), if_pos rfl]
      · rw [if_neg e2, if_neg e2]
theorem iget_idel {k x : Int} : ∀ {l : List (Int × α)}, ionce l → iget x (idel k l) = if k = x then none else iget x l
  | [], _ => by simp [idel, iget]
  | (y, u) :: r, h => by
    by_cases e : y = k
    · subst e
      simp only [idel, if_true, iget]
      by_cases e2 : y = x
      · subst e2; simp [h.1]
      · simp [e2]
    · simp only [idel, if_neg e, iget]
      rw [iget_idel h.2]
      by_cases e2 : y = x
      · subst e2
        rw [if_pos rfl, if_neg (fun h => e h.symm), if_pos rfl]
      · rw [if_neg e2, if_neg e2]
theorem ionce_iset {k : Int} {v : α} : ∀ {l : List (Int × α)}, ionce l → ionce (iset k v l)
  | [], _ => by simp [iset, ionce, iget]
  | (y, u) :: r, h => by
    by_cases e : y = k
    · subst e; simp only [iset, if_true, ionce]; exact h
    · simp only [iset, if_neg e, ionce]
      refine ⟨?_, ionce_iset h.2⟩
      rw [iget_iset, if_neg (fun h => e h.symm)]
      exact h.1
theorem ionce_idel {k : Int} : ∀ {l : List (Int × α)}, ionce l → ionce (idel k l)
  | [], _ => trivial
  | (y, u) :: r, h => by
    by_cases e : y = k
    · simp only [idel, if_pos e]; exact h.2
    · simp only [idel, if_neg e, ionce]
      refine ⟨?_, ionce_idel h.2⟩
      rw [iget_idel h.2]
      split
      · rfl
      · exact h.1
theorem iset_len {k : Int} {v : α} : ∀ {l : List (Int × α)}, (iset k v l).length = if (iget k l).isSome then l.length else l.length + 1
  | [] => rfl
  | (y, u) :: r => by
    by_cases e : y = k
    · simp [iset, iget, e]
    · simp only [iset, if_neg e, iget, List.length_cons]
      rw [iset_len]
      split <;> rfl
theorem idel_len {k : Int} : ∀ {l : List (Int × α)}, (idel k l).length = if (iget k l).isSome then l.length - 1 else l.length
  | [] => rfl
  | (y, u) :: r => by
    by_cases e : y = k
    · simp [idel, iget, e]
    · simp only [idel, if_neg e, iget, List.length_cons]
      rw [idel_len]
      cases h : iget k r with
      | none => simp
      | some v =>
        simp
        cases r with
        | nil => simp [iget] at h
        | cons _ _ => simp
theorem iget_mem {k : Int} {v : α} : ∀ {l : List (Int × α)}, iget k l = some v → (k, v) ∈ l
  | (y, u) :: r, h => by
    by_cases e : y = k
    · simp [iget, e] at h; subst e; subst h; simp
    · simp only [iget, if_neg e] at h; exact List.mem_cons_of_mem _ (iget_mem h)
theorem mem_iget {k : Int} {v : α} : ∀ {l : List (Int × α)}, ionce l → (k, v) ∈ l → iget k l = some v
  | (y, u) :: r, h, hm => by
    simp only [List.mem_cons, Prod.mk.injEq] at hm
    rcases hm with ⟨rfl, rfl⟩ | hm
    · simp [iget]
    · have h2 := mem_iget h.2 hm
      by_cases e : y = k
      · subst e; rw [h.1] at h2; cases h2
      · simp only [iget, if_neg e]; exact h2
theorem mem_iset {k x : Int} {v u : α} : ∀ {l : List (Int × α)}, (x, u) ∈ iset k v l → (x = k ∧ u = v) ∨ (x, u) ∈ l
  | [], h => by simp [iset] at h; exact .inl h
  | (y, w) :: r, h => by
    by_cases e : y = k
    · simp only [iset, if_pos e, List.mem_cons, Prod.mk.injEq] at h ⊢
      rcases h with h | h
      · exact .inl h
      · exact .inr (.inr h)
    · simp only [iset, if_neg e, List.mem_cons] at h ⊢
      rcases h with h | h
      · exact .inr (.inl h)
      · rcases mem_iset h with h | h
        · exact .inl h
        · exact .inr (.inr h)
theorem mem_idel {k : Int} {p : Int × α} : ∀ {l : List (Int × α)}, p ∈ idel k l → p ∈ l
  | (y, w) :: r, h => by
    by_cases e : y = k
    · simp only [idel, if_pos e] at h; exact List.mem_cons_of_mem _ h
    · simp only [idel, if_neg e, List.mem_cons] at h ⊢
      rcases h with h | h
      · exact .inl h
      · exact .inr (mem_idel h)
/-- The values told in another way. -/
def pm {β : Type} (f : α → β) (l : List (Int × α)) : List (Int × β) := l.map fun p => (p.1, f p.2)
theorem iget_pm {β : Type} (f : α → β) (n : Int) : ∀ l : List (Int × α), iget n (pm f l) = (iget n l).map f
  | [] => rfl
  | (x, v) :: r => by
    by_cases h : x = n
    · simp [pm, iget, h]
    · simp only [pm, List.map_cons, iget, if_neg h]; exact iget_pm f n r
theorem iset_pm {β : Type} (f : α → β) (n : Int) (v : α) : ∀ l : List (Int × α), iset n (f v) (pm f l) = pm f (iset n v l)
  | [] => rfl
  | (x, u) :: r => by
    by_cases h : x = n
    · simp [pm, iset, h]
    · simp only [pm, List.map_cons, iset, if_neg h]; rw [← pm, iset_pm f n v r]; rfl
theorem idel_pm {β : Type} (f : α → β) (n : Int) : ∀ l : List (Int × α), idel n (pm f l) = pm f (idel n l)
  | [] => rfl
  | (x, u) :: r => by
    by_cases h : x = n
    · simp [pm, idel, h]
    · simp only [pm, List.map_cons, idel, if_neg h]; rw [← pm, idel_pm f n r]; rfl
theorem pm_len {β : Type} (f : α → β) (l : List (Int × α)) : (pm f l).length = l.length := by simp [pm]
theorem pm_nil {β : Type} (f : α → β) : pm f [] = [] := rfl
end
/-- A pointer to a block. -/
def ptrTo (b : Nat) : AV := .ptr (some (b, 0))
theorem ptrTo_getD (o : Option Nat) : (o.map ptrTo).getD (.ptr none) = .ptr (o.map fun b => (b, 0)) := by cases o <;> rfl
theorem imap_len (k : IntKind) (l : List (Int × AV)) : (imap k l).length = l.length := by simp [imap]
theorem imap_nil (k : IntKind) : imap k [] = [] := rfl
theorem imap_keys (k : IntKind) (l : List (Int × AV)) : intKeys k (imap k l) := by
  intro p hp
  simp only [imap, List.mem_map] at hp
  obtain ⟨q, _, rfl⟩ := hp
  exact ⟨q.1, rfl⟩
theorem getA_imap (k : IntKind) (n : Int) : ∀ l : List (Int × AV), getA (.int k n) (imap k l) = iget n l
  | [] => rfl
  | (x, v) :: r => by
    have ih := getA_imap k n r
    by_cases h : x = n
    · subst h; simp [imap, getA, iget]
    · have : ¬ (AV.int k x = AV.int k n) := by intro e; injection e with _ e; exact h e
      simp only [imap, List.map_cons, getA, if_neg this, iget, if_neg h]
      exact ih
theorem setA_imap (k : IntKind) (n : Int) (v : AV) : ∀ l : List (Int × AV), setA (.int k n) v (imap k l) = imap k (iset n v l)
  | [] => rfl
  | (x, u) :: r => by
    have ih := setA_imap k n v r
    by_cases h : x = n
    · subst h; simp [imap, setA, iset]
    · have : ¬ (AV.int k x = AV.int k n) := by intro e; injection e with _ e; exact h e
      simp only [imap, List.map_cons, setA, if_neg this, iset, if_neg h]
      rw [← imap, ih]; rfl
theorem delA_imap (k : IntKind) (n : Int) : ∀ l : List (Int × AV), delA (.int k n) (imap k l) = imap k (idel n l)
  | [] => rfl
  | (x, u) :: r => by
    have ih := delA_imap k n r
    by_cases h : x = n
    · subst h; simp [imap, delA, idel]
    · have : ¬ (AV.int k x = AV.int k n) := by intro e; injection e with _ e; exact h e
      simp only [imap, List.map_cons, delA, if_neg this, idel, if_neg h]
      rw [← imap, ih]; rfl
theorem like_imap (k : IntKind) (n : Int) (l : List (Int × AV)) : keysLike (.int k n) (imap k l) := .inl ⟨k, n, rfl, imap_keys k l⟩

def lookX (P : Program) (t : TypeId) (a b : AV) (ok : Bool) (H : Heap) : Option (AV × Heap) := lookupR P t ok (some a) (some b) H
/-- the map that a block bears, by whole numbers of a kind -/
def asI (k : IntKind) : Option AObj → Option (List (AV × AV))
  | some (.map es) => some es
  | _ => none
def lookI (ok : Bool) (z : AV) (n : Int) (k : IntKind) (es : List (AV × AV)) (H : Heap) : Option (AV × Heap) := match findA (.int k n) es 0 with
  | some (some (_, v)) => some (if ok then .tuple [v, .bool true] else v, H)
  | some none => some (if ok then .tuple [z, .bool false] else z, H)
  | none => none
theorem lookupR_int {t : TypeId} {r : Nat} {k : IntKind} {n : Int} {ok : Bool} : lookupR P t ok (some (.map (some r))) (some (.int k n)) H =
    match keyT P t with
    | some (kt, et) => (match intT P kt, tzero P et, H.get r with
      | some _, some z, some (.map es) => lookI ok z n k es H
      | some _, some z, _ => none
      | _, _, _ => lookX P t (.map (some r)) (.int k n) ok H)
    | none => none := by
  unfold keyT
  cases hu : P.underlying t with
  | none => simp [lookupR, lookupSem, hu]
  | some d =>
    cases d with
    | map kt et =>
      simp only []
      cases hk : intT P kt with
      | none => rfl
      | some k' =>
        cases hz : tzero P et with
        | none => rfl
        | some z =>
          have hf : keyFits P kt (.int k n) = true := by
            unfold intT at hk
            unfold keyFits
            split at hk
            · rename_i h; simp only [h]
            · cases hk
          simp only [lookupR, lookupSem, hu, hf, if_true, hz, Sm.run, mapOpt]
          cases H.get r with
          | none => rfl
          | some o =>
            cases o with
            | map es =>
              simp only [lookI]
              cases findA (.int k n) es 0 with
              | none => rfl
              | some q => cases q <;> rfl
            | _ => rfl
    | _ => simp [lookupR, lookupSem, hu]
theorem lookI_one {z : AV} {n : Int} {k : IntKind} {l : List (Int × AV)} : lookI false z n k (imap k l) H = some ((iget n l).getD z, H) := by
  unfold lookI
  rcases findA_like (like_imap k n l) with ⟨h1, h2⟩ | ⟨j, v, h1, h2, _⟩
  · rw [getA_imap] at h1; simp [h2, h1]
  · rw [getA_imap] at h1; simp [h2, h1]
theorem lookI_two {z : AV} {n : Int} {k : IntKind} {l : List (Int × AV)} : lookI true z n k (imap k l) H = some (.tuple [(iget n l).getD z, .bool (iget n l).isSome], H) := by
  unfold lookI
  rcases findA_like (like_imap k n l) with ⟨h1, h2⟩ | ⟨j, v, h1, h2, _⟩
  · rw [getA_imap] at h1; simp [h2, h1]
  · rw [getA_imap] at h1; simp [h2, h1]
theorem lookupR_nil1 {t kt et : TypeId} {k : AV} : lookupR P t false (some (.map none)) (some k) H = match keyT P t with
    | some (kt, et) => if keyFits P kt k then (match tzero P et with | some z => some (z, H) | none => none) else none
    | none => none := by
  unfold keyT
  cases hu : P.underlying t with
  | none => simp [lookupR, lookupSem, hu]
  | some d =>
    cases d with
    | map kt et =>
      simp only [lookupR, lookupSem, hu]
      by_cases hf : keyFits P kt k = true
      · simp only [hf, if_true]; cases tzero P et <;> simp [Sm.run]
      · simp [hf]
    | _ => simp [lookupR, lookupSem, hu]

def updI (n : Int) (k : IntKind) (v : AV) (r : Nat) (es : List (AV × AV)) (H : Heap) : Option (AV × Heap) := match findA (.int k n) es 0 with
  | some (some (i, _)) => some (.undef, H.set r (.map (mapSet es i (.int k n) v)))
  | some none => some (.undef, H.set r (.map (es ++ [(.int k n, v)])))
  | none => none
theorem updateR_int {t : TypeId} {r : Nat} {k : IntKind} {n : Int} {v : AV} : updateR P t (some (.map (some r))) (some (.int k n)) (some v) H =
    match keyT P t with
    | some (kt, et) => (match intT P kt, H.get r with
      | some _, some (.map es) => updI n k v r es H
      | _, _ => none)
    | none => none := by
  unfold keyT
  cases hu : P.underlying t with
  | none => simp [updateR, updateSem, hu]
  | some d =>
    cases d with
    | map kt et =>
      simp only [updateR, updateSem, hu]
      have hf : keyFits P kt (.int k n) = (intT P kt).isSome := by
        unfold keyFits intT
        cases P.underlying kt with
        | none => rfl
        | some d => cases d <;> rfl
      rw [hf]
      cases hk : intT P kt with
      | none => simp
      | some k' =>
        simp only [Option.isSome_some, if_true, Sm.run]
        cases H.get r with
        | none => rfl
        | some o =>
          cases o with
          | map es =>
            simp only [updI]
            cases findA (.int k n) es 0 with
            | none => rfl
            | some q => cases q <;> rfl
          | _ => rfl
    | _ => simp [updateR, updateSem, hu]
theorem updI_eq {n : Int} {k : IntKind} {v : AV} {r : Nat} {l : List (Int × AV)} : updI n k v r (imap k l) H = some (.undef, H.set r (.map (imap k (iset n v l)))) := by
  unfold updI
  rw [← setA_imap]
  rcases findA_like (like_imap k n l) with ⟨h1, h2⟩ | ⟨j, u, h1, h2, h3⟩
  · simp only [h2, setA_none h1]
  · have := setA_some (v := v) h3
    simp only [Nat.sub_zero] at this
    simp only [h2, this, mapSet]
def delI (n : Int) (k : IntKind) (r : Nat) (es : List (AV × AV)) (H : Heap) : Option (AV × Heap) := match findA (.int k n) es 0 with
  | some (some (i, _)) => some (.undef, H.set r (.map (es.eraseIdx i)))
  | some none => some (.undef, H)
  | none => none
theorem deleteR_int {ts : Array TypeId} {r : Nat} {k : IntKind} {n : Int} : builtinR P .delete ts (some [.map (some r), .int k n]) H =
    match ts[0]? with
    | some t => (match keyT P t with
      | some (kt, et) => (match intT P kt, H.get r with
        | some _, some (.map es) => delI n k r es H
        | _, _ => none)
      | none => none)
    | none => none := by
  rw [builtinR_eq]
  simp only [builtinSem, deleteSem]
  cases ts[0]? with
  | none => rfl
  | some t =>
    simp only []
    unfold keyT
    cases hu : P.underlying t with
    | none => rfl
    | some d =>
      cases d with
      | map kt et =>
        simp only []
        have hf : keyFits P kt (.int k n) = (intT P kt).isSome := by
          unfold keyFits intT
          cases P.underlying kt with
          | none => rfl
          | some d => cases d <;> rfl
        rw [hf]
        cases hk : intT P kt with
        | none => simp
        | some k' =>
          simp only [Option.isSome_some, if_true, Sm.run]
          cases H.get r with
          | none => rfl
          | some o =>
            cases o with
            | map es =>
              simp only [delI]
              cases findA (.int k n) es 0 with
              | none => rfl
              | some q => cases q <;> rfl
            | _ => rfl
      | _ => rfl
/-- Nothing is written where there was no such key: told as a write all the same, if the block reads the same. -/
theorem delI_some {n : Int} {k : IntKind} {r : Nat} {l : List (Int × AV)} (h : (iget n l).isSome = true) : delI n k r (imap k l) H = some (.undef, H.set r (.map (imap k (idel n l)))) := by
  unfold delI
  rw [← delA_imap]
  rcases findA_like (like_imap k n l) with ⟨h1, h2⟩ | ⟨j, u, h1, h2, h3⟩
  · rw [getA_imap] at h1; rw [h1] at h; cases h
  · have := delA_some h3
    simp only [Nat.sub_zero] at this
    simp only [h2, this]
theorem delI_none {n : Int} {k : IntKind} {r : Nat} {l : List (Int × AV)} (h : iget n l = none) : delI n k r (imap k l) H = some (.undef, H) := by
  unfold delI
  rcases findA_like (like_imap k n l) with ⟨h1, h2⟩ | ⟨j, u, h1, h2, h3⟩
  · simp only [h2]
  · rw [getA_imap] at h1; rw [h1] at h; cases h

/-! ## copies -/
theorem copyR_eq {ts : Array TypeId} {base : Option (Nat × Nat)} {d c : Nat} {ex : Option Nat} {x : AV} : builtinR P .copy ts (some [.slice base d c ex, x]) H =
    match ts[0]? with
    | some t => (match elemS P t, srcLen x with
      | some size, some m => (match srcCells H size (Nat.min m d) x with
        | some cells => if cells.length ≠ Nat.min m d * size then none else
          match base with
          | none => some (.int .i64 (Nat.min m d : Nat), H)
          | some (b, o) => (match writeCells H b o cells with
            | some H' => some (.int .i64 (Nat.min m d : Nat), H')
            | none => none)
        | none => none)
      | _, _ => none)
    | none => none := by
  rw [builtinR_eq]
  simp only [builtinSem, copySem]
  cases ts[0]? with
  | none => rfl
  | some t =>
    simp only [elemS]
    cases P.underlying t with
    | none => rfl
    | some u =>
      cases u with
      | slice elem =>
        simp only []
        cases srcLen x with
        | none => cases tsz P elem <;> rfl
        | some m =>
          simp only []
          cases tsz P elem with
          | none => rfl
          | some size => rfl
      | _ => rfl

end
attribute [irreducible] sliceX cutS cutA indexR indexX byteAt fieldR makeSliceR makeFuncR lookX lookI updI delI
end Go.Abs

/- The walking kit, fourth part: what is left alone, slices that are read, appends, a body's end, calls. -/
namespace Go.Abs
set_option linter.unusedVariables false
set_option linter.unusedSimpArgs false

/-! ## what is left alone -/
structure Upd (fp : Nat → Prop) (H H' : Heap) : Prop where
  next : H.next ≤ H'.next
  wf : Wf H → Wf H'
  keep : ∀ b, b < H.next → ¬ fp b → H'.get b = H.get b

def nobody : Nat → Prop := fun _ => False
abbrev Keep (H H' : Heap) : Prop := Upd nobody H H'

theorem Upd.rfl {fp : Nat → Prop} {H : Heap} : Upd fp H H := ⟨Nat.le_refl _, id, fun _ _ _ => Eq.refl _⟩
theorem Upd.mono {fp fq : Nat → Prop} {H H' : Heap} (h : Upd fp H H') (hs : ∀ b, b < H.next → fp b → fq b) : Upd fq H H' := ⟨h.next, h.wf, fun b hb hn => h.keep b hb fun hf => hn (hs b hb hf)⟩
theorem Upd.of {fp : Nat → Prop} {H H' : Heap} (h : Keep H H') : Upd fp H H' := h.mono fun _ _ h => h.elim
theorem Upd.trans {fp fq : Nat → Prop} {H H1 H2 : Heap} (h : Upd fp H H1) (g : Upd fq H1 H2) (hs : ∀ b, b < H.next → fq b → fp b) : Upd fp H H2 :=
  ⟨Nat.le_trans h.next g.next, fun w => g.wf (h.wf w), fun b hb hn => (g.keep b (Nat.lt_of_lt_of_le hb h.next) fun hf => hn (hs b hb hf)).trans (h.keep b hb hn)⟩
theorem Upd.then {fp : Nat → Prop} {H H1 H2 : Heap} (h : Upd fp H H1) (g : Keep H1 H2) : Upd fp H H2 := h.trans g fun _ _ h => h.elim
theorem Upd.push {fp : Nat → Prop} {H H1 : Heap} (h : Upd fp H H1) (o : AObj) : Upd fp H (H1.push o) :=
  ⟨by have := h.next; simp; omega, fun w => push_wf o (h.wf w), fun b hb hn => by rw [Heap.get_push, if_neg (by have := h.next; omega)]; exact h.keep b hb hn⟩
theorem set_wf {H : Heap} {b : Nat} (hb : b < H.next) (o : AObj) (h : Wf H) : Wf (H.set b o) := by
  intro x hx
  rw [Heap.next_set] at hx
  rw [Heap.get_set, if_neg (by omega)]
  exact h x hx
theorem Upd.set {fp : Nat → Prop} {H H1 : Heap} (h : Upd fp H H1) {b : Nat} (o : AObj) (hb : b < H1.next) (hf : b < H.next → fp b) : Upd fp H (H1.set b o) :=
  ⟨by have := h.next; simp; omega, fun w => set_wf hb o (h.wf w), fun x hx hn => by
    rw [Heap.get_set, if_neg (fun e => by subst e; exact hn (hf hx))]
    exact h.keep x hx hn⟩
theorem Upd.butOne {fp : Nat → Prop} {H H1 H2 : Heap} {ob : Option Nat} (h : Upd fp H H1) (g : ButOne ob H1 H2) (hf : ∀ b, ob = some b → b < H.next → fp b) : Upd fp H H2 :=
  ⟨Nat.le_trans h.next g.1, fun w => g.2.1 (h.wf w), fun b hb hn => (g.2.2 b (Nat.lt_of_lt_of_le hb h.next) (fun e => hn (hf b e.symm hb))).trans (h.keep b hb hn)⟩
theorem Keep.get {H H' : Heap} (h : Keep H H') {b : Nat} (hb : b < H.next) : H'.get b = H.get b := h.keep b hb id
theorem Keep.hext {H H' : Heap} (h : Keep H H') : HExt H H' := ⟨h.next, fun b hb => h.get hb⟩
/-- A block that lies is below the next one. -/
theorem Wf.lt {H : Heap} (h : Wf H) {b : Nat} {o : AObj} (hb : H.get b = some o) : b < H.next := by
  rcases Nat.lt_or_ge b H.next with h1 | h1
  · exact h1
  · rw [h b h1] at hb; cases hb

/-! ## slices that are read -/
/-- A slice whose elements' cells (s each) are these. -/
def Sl (H : Heap) (s : Nat) (v : AV) (n : Nat) (cs : List AV) : Prop :=
  cs.length = n * s ∧ ((v = .slice none 0 0 none ∧ n = 0) ∨ ∃ b o cap ex, v = .slice (some (b, o)) n cap ex ∧ n ≤ cap ∧ (ex = none ∨ ex = some s) ∧
    (0 < n → b < H.next ∧ ∃ c t w m, H.get b = some (.cells c t w m) ∧ o + n * s ≤ c.length ∧ (c.drop o).take (n * s) = cs))

theorem Sl.len {H : Heap} {s n : Nat} {v : AV} {cs : List AV} (h : Sl H s v n cs) : cs.length = n * s := h.1
theorem Sl.nil {H : Heap} {s : Nat} : Sl H s (.slice none 0 0 none) 0 [] := ⟨by simp, .inl ⟨rfl, rfl⟩⟩
theorem Sl.keep {H H' : Heap} {s n : Nat} {v : AV} {cs : List AV} (h : Sl H s v n cs) (hn : H.next ≤ H'.next) (hg : ∀ b, slBlock v = some b → b < H.next → 0 < n → H'.get b = H.get b) : Sl H' s v n cs := by
  refine ⟨h.1, ?_⟩
  rcases h.2 with h | ⟨b, o, cap, ex, rfl, h1, h2, h3⟩
  · exact .inl h
  · refine .inr ⟨b, o, cap, ex, rfl, h1, h2, fun h0 => ?_⟩
    obtain ⟨g1, c, t, w, m, g2, g3, g4⟩ := h3 h0
    exact ⟨by omega, c, t, w, m, (hg b rfl g1 h0).trans g2, g3, g4⟩
theorem Sl.upd {H H' : Heap} {s n : Nat} {v : AV} {cs : List AV} {fp : Nat → Prop} (h : Sl H s v n cs) (u : Upd fp H H') (hd : ∀ b, slBlock v = some b → 0 < n → ¬ fp b) : Sl H' s v n cs :=
  h.keep u.next fun b hb hl h0 => u.keep b hl (hd b hb h0)
theorem Sl.kept {H H' : Heap} {s n : Nat} {v : AV} {cs : List AV} (h : Sl H s v n cs) (u : Keep H H') : Sl H' s v n cs := h.upd u fun _ _ _ => id
/-- The form of a slice. -/
theorem Sl.form {H : Heap} {s n : Nat} {v : AV} {cs : List AV} (h : Sl H s v n cs) : ∃ a cap ex, v = .slice a n cap ex ∧ n ≤ cap ∧ (ex = none ∨ ex = some s) := by
  rcases h.2 with ⟨rfl, rfl⟩ | ⟨b, o, cap, ex, rfl, h1, h2, _⟩
  · exact ⟨none, 0, none, rfl, Nat.le_refl _, .inl rfl⟩
  · exact ⟨some (b, o), cap, ex, rfl, h1, h2⟩
/-- Where there is an element, there is a block. -/
theorem Sl.at {H : Heap} {s n : Nat} {a : Option (Nat × Nat)} {cap : Nat} {ex : Option Nat} {cs : List AV} (h : Sl H s (.slice a n cap ex) n cs) (h0 : 0 < n) :
    ∃ b o c t w m, a = some (b, o) ∧ b < H.next ∧ H.get b = some (.cells c t w m) ∧ o + n * s ≤ c.length ∧ (c.drop o).take (n * s) = cs := by
  rcases h.2 with ⟨e, rfl⟩ | ⟨b, o, cap, ex, e, h1, h2, h3⟩
  · omega
  · injection e with e1 _ _ _
    obtain ⟨g1, c, t, w, m, g2, g3, g4⟩ := h3 h0
    exact ⟨b, o, c, t, w, m, e1, g1, g2, g3, g4⟩
theorem OwnSl.sl {H : Heap} {elem : TypeId} {s n : Nat} {v : AV} {cs : List AV} (h : OwnSl H elem s v n cs) : Sl H s v n cs := by
  refine ⟨h.len, ?_⟩
  rcases h with ⟨rfl, rfl, rfl⟩ | ⟨b, sl, rfl, h1, h2, h3, h4⟩
  · exact .inl ⟨rfl, rfl⟩
  · exact .inr ⟨b, 0, n, sl, rfl, Nat.le_refl _, h1, fun _ => ⟨h3, cs, elem, true, false, h4, by omega, by rw [List.drop_zero, List.take_of_length_le (by omega)]⟩⟩
theorem Sl.src {H : Heap} {s n : Nat} {v : AV} {cs : List AV} (h : Sl H s v n cs) : srcCells H s n v = some cs ∧ srcLen v = some n := by
  obtain ⟨hl, h⟩ := h
  rcases h with ⟨rfl, rfl⟩ | ⟨b, o, cap, ex, rfl, h1, h2, h3⟩
  · have : cs = [] := List.eq_nil_of_length_eq_zero (by simpa using hl)
    subst this
    exact ⟨rfl, rfl⟩
  · refine ⟨?_, rfl⟩
    simp only [srcCells]
    by_cases h0 : n * s = 0
    · rw [if_pos h0]
      have : cs = [] := List.eq_nil_of_length_eq_zero (by omega)
      rw [this]
    · rw [if_neg h0, if_pos (Nat.le_refl _)]
      have hn : 0 < n := by rcases Nat.eq_zero_or_pos n with h | h; (· subst h; simp at h0); exact h
      obtain ⟨_, c, t, w, m, g2, g3, g4⟩ := h3 hn
      simp only [cellsAt, g2, if_pos g3, g4]
theorem src_at {H : Heap} {s b o n cap : Nat} {ex : Option Nat} {c : List AV} {t : TypeId} {w m : Bool} (hb : H.get b = some (.cells c t w m)) (h : o + n * s ≤ c.length) :
    srcLen (.slice (some (b, o)) n cap ex) = some n ∧ srcCells H s n (.slice (some (b, o)) n cap ex) = some ((c.drop o).take (n * s)) := by
  refine ⟨rfl, ?_⟩
  simp only [srcCells]
  by_cases h0 : n * s = 0
  · rw [if_pos h0, h0, List.take_zero]
  · rw [if_neg h0, if_pos (Nat.le_refl _)]
    simp only [cellsAt, hb, if_pos h]
theorem sub_get {c cs : List AV} {o m i : Nat} (h : (c.drop o).take m = cs) (hi : i < m) : c[o + i]? = cs[i]? := by
  rw [← h, List.getElem?_take, if_pos hi, List.getElem?_drop]
theorem sub_take {c cs : List AV} {o m i k : Nat} (h : (c.drop o).take m = cs) (hi : i + k ≤ m) : (c.drop (o + i)).take k = (cs.drop i).take k := by
  rw [← h, List.drop_take, List.drop_drop, List.take_take, Nat.min_eq_left (by omega)]

theorem OwnSl.push {H : Heap} {elem : TypeId} {s n : Nat} {v : AV} {cs : List AV} (h : OwnSl H elem s v n cs) (o : AObj) : OwnSl (H.push o) elem s v n cs :=
  h.keep (by simp) fun b _ hb => by rw [Heap.get_push, if_neg (by omega)]
theorem OwnSl.set {H : Heap} {elem : TypeId} {s n : Nat} {v : AV} {cs : List AV} (h : OwnSl H elem s v n cs) {b : Nat} (o : AObj) (hb : slBlock v ≠ some b) : OwnSl (H.set b o) elem s v n cs :=
  h.keep (by simp) fun x hx _ => by rw [Heap.get_set, if_neg (fun e => hb (by rw [← e]; exact hx))]
theorem OwnSl.upd {H H' : Heap} {elem : TypeId} {s n : Nat} {v : AV} {cs : List AV} {fp : Nat → Prop} (h : OwnSl H elem s v n cs) (u : Upd fp H H') (hd : ∀ b, slBlock v = some b → ¬ fp b) : OwnSl H' elem s v n cs :=
  h.keep u.next fun b hb hl => u.keep b hl (hd b hb)
theorem OwnSl.kept {H H' : Heap} {elem : TypeId} {s n : Nat} {v : AV} {cs : List AV} (h : OwnSl H elem s v n cs) (u : Keep H H') : OwnSl H' elem s v n cs := h.upd u fun _ _ => id
theorem OwnSl.butOne {H H' : Heap} {elem : TypeId} {s n : Nat} {v : AV} {cs : List AV} {ob : Option Nat} (h : OwnSl H elem s v n cs) (u : ButOne ob H H') (hd : ∀ b, slBlock v = some b → ob ≠ some b) : OwnSl H' elem s v n cs :=
  h.keep u.1 fun b hb hl => u.2.2 b hl fun e => hd b hb e.symm
theorem Sl.push {H : Heap} {s n : Nat} {v : AV} {cs : List AV} (h : Sl H s v n cs) (o : AObj) : Sl (H.push o) s v n cs :=
  h.keep (by simp) fun b _ hb _ => by rw [Heap.get_push, if_neg (by omega)]
theorem Sl.set {H : Heap} {s n : Nat} {v : AV} {cs : List AV} (h : Sl H s v n cs) {b : Nat} (o : AObj) (hb : slBlock v ≠ some b) : Sl (H.set b o) s v n cs :=
  h.keep (by simp) fun x hx _ _ => by rw [Heap.get_set, if_neg (fun e => hb (by rw [← e]; exact hx))]
theorem Sl.butOne {H H' : Heap} {s n : Nat} {v : AV} {cs : List AV} {ob : Option Nat} (h : Sl H s v n cs) (u : ButOne ob H H') (hd : ∀ b, slBlock v = some b → ob ≠ some b) : Sl H' s v n cs :=
  h.keep u.1 fun b hb hl _ => u.2.2 b hl fun e => hd b hb e.symm
/-- Its block, if it has one, was there. -/
theorem OwnSl.lt {H : Heap} {elem : TypeId} {s n : Nat} {v : AV} {cs : List AV} (h : OwnSl H elem s v n cs) : ∀ b, slBlock v = some b → b < H.next := by
  intro b hb
  rcases h with ⟨rfl, _, _⟩ | ⟨b', sl, rfl, _, _, h3, _⟩
  · cases hb
  · simp [slBlock] at hb; subst hb; exact h3
theorem OwnSl.form {H : Heap} {elem : TypeId} {s n : Nat} {v : AV} {cs : List AV} (h : OwnSl H elem s v n cs) : ∃ a ex, v = .slice a n n ex ∧ (ex = none ∨ ex = some s) := by
  rcases h with ⟨rfl, rfl, _⟩ | ⟨b, sl, rfl, h1, _⟩
  · exact ⟨none, none, rfl, .inl rfl⟩
  · exact ⟨_, _, rfl, h1⟩
/-- A block that the run has made, read as a slice of its own. -/
theorem OwnSl.mk {H : Heap} {elem : TypeId} {s n : Nat} {cs : List AV} {b : Nat} (hl : cs.length = n * s) (hb : b < H.next) (hg : H.get b = some (.cells cs elem true false)) : OwnSl H elem s (.slice (some (b, 0)) n n none) n cs :=
  .inr ⟨b, none, rfl, .inl rfl, hl, hb, hg⟩
theorem OwnSl.nil {H : Heap} {elem : TypeId} {s : Nat} : OwnSl H elem s (.slice none 0 0 none) 0 [] := .inl ⟨rfl, rfl, rfl⟩

/-- A slice made since: nothing that was there has turned. -/
structure Fresh (H0 H : Heap) (elem : TypeId) (s : Nat) (v : AV) (n : Nat) (cs : List AV) : Prop where
  own : OwnSl H elem s v n cs
  keep : Keep H0 H
  new : ∀ b, slBlock v = some b → H0.next ≤ b
section
variable {H0 H H' : Heap} {elem : TypeId} {s n m : Nat} {v v' : AV} {cs ds : List AV}
theorem Fresh.nil (k : Keep H0 H) : Fresh H0 H elem s (.slice none 0 0 none) 0 [] := ⟨OwnSl.nil, k, by simp [slBlock]⟩
theorem Fresh.push (f : Fresh H0 H elem s v n cs) (o : AObj) : Fresh H0 (H.push o) elem s v n cs := ⟨f.own.push o, f.keep.push o, f.new⟩
theorem Fresh.then (f : Fresh H0 H elem s v n cs) (k : Keep H H') : Fresh H0 H' elem s v n cs := ⟨f.own.kept k, f.keep.then k, f.new⟩
theorem Fresh.after {H00 : Heap} (k : Keep H00 H0) (f : Fresh H0 H elem s v n cs) : Fresh H00 H elem s v n cs := ⟨f.own, k.then f.keep, fun b hb => by have := f.new b hb; have := k.next; omega⟩
theorem Fresh.app (f : Fresh H0 H elem s v n cs) (o : OwnSl H' elem s v' m ds) (b : ButOne (slBlock v) H H') (hs : slBlock v' = slBlock v ∨ slBlock v' = some H.next) : Fresh H0 H' elem s v' m ds :=
  ⟨o, f.keep.butOne b fun x hx hl => by have := f.new x hx; exact absurd hl (by omega), fun x hx => by
    rcases hs with hs | hs
    · exact f.new x (hs ▸ hx)
    · rw [hs] at hx; injection hx with hx; have := f.keep.next; omega⟩
theorem Fresh.ne (f : Fresh H0 H elem s v n cs) {b : Nat} (hb : b < H0.next) : slBlock v ≠ some b := fun e => by have := f.new b e; omega
/-- A new block read as a slice. -/
theorem Fresh.made (k : Keep H0 H) {b : Nat} (hl : cs.length = n * s) (hb : H0.next ≤ b) (hn : b < H.next) (hg : H.get b = some (.cells cs elem true false)) : Fresh H0 H elem s (.slice (some (b, 0)) n n none) n cs :=
  ⟨OwnSl.mk hl hn hg, k, fun x hx => by simp [slBlock] at hx; omega⟩
end

/-! ## typed cells -/
def flat {α : Type} (enc : α → List AV) (l : List α) : List AV := l.flatMap enc
theorem flat_len {α : Type} {enc : α → List AV} {s : Nat} (hs : ∀ x, (enc x).length = s) : ∀ l : List α, (flat enc l).length = l.length * s
  | [] => by simp [flat]
  | x :: l => by
    have := flat_len hs l
    simp only [flat, List.flatMap_cons, List.length_append, List.length_cons, hs] at *
    rw [this, Nat.add_mul]; omega
theorem flat_take {α : Type} {enc : α → List AV} {s : Nat} (hs : ∀ x, (enc x).length = s) : ∀ {l : List α} {i : Nat} {x : α}, l[i]? = some x → ((flat enc l).drop (i * s)).take s = enc x
  | [], i, x, h => by simp at h
  | y :: l, 0, x, h => by simp at h; subst h; simp [flat, ← hs y]
  | y :: l, i + 1, x, h => by
    have := flat_take hs (l := l) (i := i) (by simpa using h)
    have e : (i + 1) * s = (enc y).length + i * s := by rw [hs, Nat.add_mul]; omega
    rw [e]
    have e2 : (enc y).drop ((enc y).length + i * s) = [] := List.drop_eq_nil_of_le (by omega)
    simpa [flat, List.drop_append, e2] using this
theorem flat_get {α : Type} {enc : α → List AV} {s : Nat} (hs : ∀ x, (enc x).length = s) {l : List α} {i k : Nat} {x : α} (h : l[i]? = some x) (hk : k < s) : (flat enc l)[i * s + k]? = (enc x)[k]? := by
  have := flat_take hs h
  rw [← this, List.getElem?_take, if_pos hk, List.getElem?_drop]
theorem flat_app {α : Type} {enc : α → List AV} (l m : List α) : flat enc (l ++ m) = flat enc l ++ flat enc m := by simp [flat]
theorem flat_one {α : Type} {enc : α → List AV} (x : α) : flat enc [x] = enc x := by simp [flat]
theorem flat_nil {α : Type} {enc : α → List AV} : flat enc [] = [] := rfl

/-! ## a body's end -/
section
variable {P : Program} {prims : Prims} {N : Nat}
def Ret (P : Program) (N : Nat) (rs : List ResultVar) (K : AV → Heap → Prop) : Post := fun x e H => x ∈ [AX.normal, AX.ret] ∧ ∃ vs, resultsA P (tab N e) H rs = some vs ∧ K (tupled vs) H
theorem Ret.ret {rs : List ResultVar} {K : AV → Heap → Prop} {e : Nat → AV} {H : Heap} {vs : List AV} {v : AV} (h : resultsA P (tab N e) H rs = some vs) (ht : tupled vs = v) (k : K v H) : Ret P N rs K .ret e H := ⟨by simp, vs, h, ht ▸ k⟩
theorem Ret.normal {rs : List ResultVar} {K : AV → Heap → Prop} {e : Nat → AV} {H : Heap} {vs : List AV} {v : AV} (h : resultsA P (tab N e) H rs = some vs) (ht : tupled vs = v) (k : K v H) : Ret P N rs K .normal e H := ⟨by simp, vs, h, ht ▸ k⟩
theorem CallsA.enter {f : FuncId} {fn : Func} {c : Code} {args : List AV} {H : Heap} {K : AV → Heap → Prop} (hf : P.funcs[f]? = some fn) (hp : prims f = none) (hb : fn.body = some c) (hN : fn.ntmps = N)
    (hl : args.length ≤ N) (h : Wp P prims N c (argEnv args) H (Ret P N fn.results.toList K)) : CallsA P prims f args H K :=
  CallsA.of hf hp hb hN hl h

/-! ## calls -/
theorem OpR.callv {x : Operand} {xs : Array Operand} {ts : Array TypeId} {d : Option Tmp} {t : TypeId} {pos : String} {after : Array Edge} {g : Option (Nat × Bool)} {e : Nat → AV} {H : Heap} {K : AV → Heap → Prop} {f : FuncId} {first captured args all : List AV}
    (hf : ev P (tab N e) x = some (.func (.func f) first captured)) (ha : mapOpt (ev P (tab N e)) xs.toList = some args) (hall : first ++ args ++ captured = all)
    (h : CallsA P prims f all H K) : OpR P prims N { dst := d, op := .call { callee := .value x, args := xs, argTypes := ts }, type := t, pos := pos, after := after, guard := g } e H K := by
  subst hall
  exact OpR.call rfl rfl hf ha h
theorem Ops.callv {ops : Array Oper} {x : Operand} {d : Tmp} {xs : Array Operand} {ts : Array TypeId} {t : TypeId} {pos : String} {after : Array Edge} {os : List Oper} {e : Nat → AV} {H : Heap} {K : (Nat → AV) → Heap → Prop} {f : FuncId} {first captured args all : List AV}
    (hf : ev P (tab N e) x = some (.func (.func f) first captured)) (ha : mapOpt (ev P (tab N e)) xs.toList = some args) (hall : first ++ args ++ captured = all)
    (h : CallsA P prims f all H fun v H' => Ops P prims N ops os (setE e d v) H' K) :
    Ops P prims N ops ({ dst := some d, op := .call { callee := .value x, args := xs, argTypes := ts }, type := t, pos := pos, after := after, guard := none } :: os) e H K :=
  Ops.cons rfl (OpR.callv hf ha hall h)
theorem Ops.callv0 {ops : Array Oper} {x : Operand} {xs : Array Operand} {ts : Array TypeId} {t : TypeId} {pos : String} {after : Array Edge} {os : List Oper} {e : Nat → AV} {H : Heap} {K : (Nat → AV) → Heap → Prop} {f : FuncId} {first captured args all : List AV}
    (hf : ev P (tab N e) x = some (.func (.func f) first captured)) (ha : mapOpt (ev P (tab N e)) xs.toList = some args) (hall : first ++ args ++ captured = all)
    (h : CallsA P prims f all H fun v H' => Ops P prims N ops os e H' K) :
    Ops P prims N ops ({ dst := none, op := .call { callee := .value x, args := xs, argTypes := ts }, type := t, pos := pos, after := after, guard := none } :: os) e H K :=
  Ops.cons rfl (OpR.callv hf ha hall h)
theorem Ops.gcallv {ops : Array Oper} {x : Operand} {d : Tmp} {xs : Array Operand} {ts : Array TypeId} {t : TypeId} {pos : String} {after : Array Edge} {os : List Oper} {e : Nat → AV} {H : Heap} {K : (Nat → AV) → Heap → Prop} {f : FuncId} {first captured args all : List AV} {j : Nat} {want : Bool} {d' : Tmp}
    (hj : yDst ops j = some d') (hN : d' < N) (hb : e d' = .bool want)
    (hf : ev P (tab N e) x = some (.func (.func f) first captured)) (ha : mapOpt (ev P (tab N e)) xs.toList = some args) (hall : first ++ args ++ captured = all)
    (h : CallsA P prims f all H fun v H' => Ops P prims N ops os (setE e d v) H' K) :
    Ops P prims N ops ({ dst := some d, op := .call { callee := .value x, args := xs, argTypes := ts }, type := t, pos := pos, after := after, guard := some (j, want) } :: os) e H K :=
  Ops.cons (by rw [wanted_guard rfl hj hN hb]; simp) (OpR.callv hf ha hall h)

/-- An append to a slice of the run's own (or nil). -/
theorem Ops.append {ops : Array Oper} {d : Tmp} {xs : Array Operand} {ts : Array TypeId} {t : TypeId} {pos : String} {after : Array Edge} {os : List Oper} {e : Nat → AV} {H : Heap} {K : (Nat → AV) → Heap → Prop} {v x : AV} {n m u t1 bytes s : Nat} {z cs new : List AV}
    (ha : mapOpt (ev P (tab N e)) xs.toList = some [v, x]) (ht : ∃ t0, ts[0]? = some t0 ∧ elemF P t0 = some (u, bytes, s, z)) (ht1 : ts[1]? = some t1) (hu1 : (P.underlying t1).isSome = true) (hc : isCount P (some t1) = false)
    (own : OwnSl H u s v n cs) (hx : srcLen x = some m) (hs : srcCells H s m x = some new) (hl : new.length = m * s) (hone : new.all AV.one = true) (hb : (n + m) * bytes ≤ 2 ^ 46) (hn : n + m ≤ 2 ^ 46)
    (h : ∀ v' H', OwnSl H' u s v' (n + m) (cs ++ new) → ButOne (slBlock v) H H' → (slBlock v' = slBlock v ∨ slBlock v' = some H.next) → Ops P prims N ops os (setE e d v') H' K) :
    Ops P prims N ops ({ dst := some d, op := .call { callee := .builtin .append, args := xs, argTypes := ts }, type := t, pos := pos, after := after, guard := none } :: os) e H K := by
  obtain ⟨t0, h0, hF⟩ := ht
  obtain ⟨base, ex, rfl⟩ : ∃ base ex, v = .slice base n n ex := by
    rcases own with ⟨rfl, rfl, _⟩ | ⟨b, sl, rfl, _⟩
    · exact ⟨none, none, rfl⟩
    · exact ⟨_, _, rfl⟩
  unfold elemF at hF
  split at hF
  · rename_i u' hu
    split at hF
    · rename_i b' s' z' g1 g2 g3
      split at hF
      · rename_i hz
        injection hF with hF
        simp only [Prod.mk.injEq] at hF
        obtain ⟨rfl, rfl, rfl, rfl⟩ := hF
        obtain ⟨d1, hd1⟩ := Option.isSome_iff_exists.1 hu1
        obtain ⟨v', H', r, o, bo, hbk⟩ := appendA_own own hl hone hb hn
        refine Ops.op (v := v') (H' := H') ?_ (h v' H' o bo hbk)
        rw [opR_builtin, ha, append_eq h0 hu g2 g1 g3 hz (by rw [ht1]; exact hc) ht1 hd1 hx hs hl]
        exact r
      · cases hF
    · cases hF
  · cases hF

end
attribute [irreducible] Ret Sl
end Go.Abs

/- Whatever is run: numbers only grow, and nothing lies beyond the next one. -/
namespace Go.Abs
set_option linter.unusedVariables false
set_option linter.unusedSimpArgs false

/-- What every step keeps. -/
def Rl (H H' : Heap) : Prop := H.next ≤ H'.next ∧ (Wf H → Wf H')
theorem Rl.refl (H : Heap) : Rl H H := ⟨Nat.le_refl _, id⟩
theorem Rl.trans {H H1 H2 : Heap} (h : Rl H H1) (g : Rl H1 H2) : Rl H H2 := ⟨Nat.le_trans h.1 g.1, fun w => g.2 (h.2 w)⟩
theorem Rl.push (H : Heap) (o : AObj) : Rl H (H.push o) := ⟨by simp, push_wf o⟩
theorem Rl.set {H : Heap} {b : Nat} {o : AObj} (h : H.get b = some o) (o' : AObj) : Rl H (H.set b o') := ⟨by simp, fun w => set_wf (w.lt h) o' w⟩

def CallRl (call : CallFn) : Prop := ∀ f args H v H', call f args H = some (v, H') → Rl H H'

theorem writeCells_rl {H H' : Heap} {b o : Nat} {vs : List AV} (h : writeCells H b o vs = some H') : Rl H H' := by
  unfold writeCells at h
  split at h
  · obtain rfl := Option.some.inj h; exact Rl.refl _
  · split at h
    · split at h
      · obtain rfl := Option.some.inj h; exact Rl.set (by assumption) _
      · cases h
    · cases h

theorem appendA_rl {elem : TypeId} {size bytes : Nat} {base : Option (Nat × Nat)} {sLen sCap : Nat} {sl : Option Nat} {n : Nat} {new : List AV} {H H' : Heap} {v : AV}
    (h : appendA elem size bytes base sLen sCap sl n new H = some (v, H')) : Rl H H' := by
  rcases appendA_cases h with ⟨_, hh⟩ | ⟨_, _, old, _, _, hh⟩
  · rcases hh with ⟨_, _, rfl⟩ | ⟨b, o, _, hw, _⟩
    · exact Rl.refl _
    · exact writeCells_rl hw
  · rcases hh with ⟨_, rfl⟩ | ⟨b, o, c, e, _, _, hg, _, _, rfl⟩
    · exact Rl.push _ _
    · exact (Rl.set hg _).trans (Rl.push _ _)

/-- The heavy operations that are no calls. -/
def Sm.Rls (s : Sm) : Prop := ∀ H v H', s.run H = some (v, H') → Rl H H'

theorem rl_pure (v : AV) : (Sm.pure v).Rls := by
  intro H v' H' h
  simp only [Sm.run, Option.some.injEq, Prod.mk.injEq] at h
  rw [h.2]; exact Rl.refl _

theorem rl_alloc (o : AObj) (mk : Nat → AV) : (Sm.alloc o mk).Rls := by
  intro H v' H' h
  simp only [Sm.run, Option.some.injEq, Prod.mk.injEq] at h
  rw [← h.2]; (first | exact Rl.refl _ | exact Rl.push _ _ | exact Rl.set (by assumption) _)

theorem rl_read (bs : List Nat) (k : List AObj → Option AV) : (Sm.read bs k).Rls := by
  intro H v' H' h
  simp only [Sm.run] at h
  split at h
  · split at h
    · simp only [Option.some.injEq, Prod.mk.injEq] at h
      rw [h.2]; exact Rl.refl _
    · cases h
  · cases h

theorem rl_map {o : Option AV} {s : Sm} (h : o.map Sm.pure = some s) : s.Rls := by
  cases o with
  | none => cases h
  | some v => simp at h; subst h; exact rl_pure v

theorem eqSem_rl {P : Program} {t : TypeId} {x y : AV} {neg : Bool} {s : Sm} (h : eqSem P t x y neg = some s) : s.Rls := by
  unfold eqSem at h
  split at h <;> (try (obtain rfl := Option.some.inj h; exact rl_pure _)) <;> (try (cases h; done))
  · split at h
    · cases h
    · split at h
      · obtain rfl := Option.some.inj h; exact rl_pure _
      · obtain rfl := Option.some.inj h; exact rl_read _ _
  all_goals
    split at h
    · cases h
    · split at h
      · obtain rfl := Option.some.inj h; exact rl_pure _
      · cases h

theorem binSem_rl {P : Program} {op : BinOp} {t : TypeId} {x y : AV} {s : Sm} (h : binSem P op t x y = some s) : s.Rls := by
  unfold binSem at h
  split at h
  · exact rl_map h
  · exact rl_map h
  · split at h
    · exact rl_map h
    · cases h
  · exact rl_map h
  · split at h
    · obtain rfl := Option.some.inj h; exact rl_pure _
    · cases h
  · split at h
    · obtain rfl := Option.some.inj h; exact rl_pure _
    · cases h
  · exact eqSem_rl h
  · exact eqSem_rl h
  · cases h

theorem convSem_rl {P : Program} {src dst : TypeId} {x : AV} {s : Sm} (h : convSem P src dst x = some s) : s.Rls := by
  unfold convSem at h
  split at h
  · obtain rfl := Option.some.inj h; exact rl_pure _
  · obtain rfl := Option.some.inj h; exact rl_pure _
  · split at h
    · split at h
      · obtain rfl := Option.some.inj h; exact rl_alloc _ _
      · cases h
    · cases h
  · split at h
    · split at h
      · obtain rfl := Option.some.inj h
        intro H v H' hr
        simp only [Sm.run] at hr
        split at hr
        · simp only [Option.some.injEq, Prod.mk.injEq] at hr
          rw [← hr.2]; (first | exact Rl.refl _ | exact Rl.push _ _ | exact Rl.set (by assumption) _)
        · cases hr
      · cases h
    · cases h
  · split at h
    · obtain rfl := Option.some.inj h; exact rl_pure _
    · obtain rfl := Option.some.inj h; exact rl_read _ _
    · cases h
  · cases h

theorem builtinSem_rl {P : Program} {b : Builtin} {ts : Array TypeId} {args : List AV} {s : Sm} (h : builtinSem P b ts args = some s) : s.Rls := by
  unfold builtinSem at h
  split at h
  · unfold appendSem at h
    split at h
    · cases h
    split at h
    case h_2 => cases h
    split at h
    case h_2 => cases h
    split at h
    · cases h
    split at h
    · split at h
      · split at h
        · obtain rfl := Option.some.inj h
          intro H v H' hr
          exact appendA_rl hr
        · cases h
      · cases h
    · split at h
      · split at h
        · obtain rfl := Option.some.inj h
          intro H v H' hr
          simp only [Sm.run] at hr
          split at hr
          · split at hr
            · exact appendA_rl hr
            · cases hr
          · cases hr
        · cases h
      · cases h
  · unfold copySem at h
    split at h
    · cases h
    split at h
    case h_2 => cases h
    split at h
    case h_2 => cases h
    obtain rfl := Option.some.inj h
    intro H v H' hr
    simp only [Sm.run] at hr
    split at hr
    · split at hr
      · cases hr
      · split at hr
        · simp only [Option.some.injEq, Prod.mk.injEq] at hr
          rw [hr.2]; exact Rl.refl _
        · split at hr
          · rename_i hw
            simp only [Option.some.injEq, Prod.mk.injEq] at hr
            rw [← hr.2]; exact writeCells_rl hw
          · cases hr
    · cases hr
  · unfold clearSem at h
    split at h
    · cases h
    split at h
    · obtain rfl := Option.some.inj h; exact rl_pure _
    · obtain rfl := Option.some.inj h; exact rl_pure _
    · obtain rfl := Option.some.inj h
      intro H v H' hr
      simp only [Sm.run] at hr
      split at hr
      · simp only [Option.some.injEq, Prod.mk.injEq] at hr
        rw [← hr.2]; (first | exact Rl.refl _ | exact Rl.push _ _ | exact Rl.set (by assumption) _)
      · cases hr
    · split at h
      · obtain rfl := Option.some.inj h; exact rl_pure _
      · split at h
        case h_2 => cases h
        split at h
        · cases h
        obtain rfl := Option.some.inj h
        intro H v H' hr
        simp only [Sm.run] at hr
        split at hr
        · rename_i hw
          simp only [Option.some.injEq, Prod.mk.injEq] at hr
          rw [← hr.2]; exact writeCells_rl hw
        · cases hr
    · cases h
  · unfold deleteSem at h
    split at h
    · cases h
    split at h
    · split at h
      · obtain rfl := Option.some.inj h; exact rl_pure _
      · cases h
    · split at h
      · obtain rfl := Option.some.inj h
        intro H v H' hr
        simp only [Sm.run] at hr
        split at hr
        · split at hr
          · simp only [Option.some.injEq, Prod.mk.injEq] at hr
            rw [← hr.2]; (first | exact Rl.refl _ | exact Rl.push _ _ | exact Rl.set (by assumption) _)
          · simp only [Option.some.injEq, Prod.mk.injEq] at hr
            rw [hr.2]; exact Rl.refl _
          · cases hr
        · cases hr
      · cases h
    · cases h
  · unfold lenSem at h
    split at h
    · cases h
    split at h <;> (try (obtain rfl := Option.some.inj h; exact rl_pure _)) <;> (try (cases h; done))
    · obtain rfl := Option.some.inj h; exact rl_read _ _
    · split at h
      · obtain rfl := Option.some.inj h; exact rl_pure _
      · cases h
  · unfold capSem at h
    split at h
    · cases h
    split at h <;> first
      | (obtain rfl := Option.some.inj h; exact rl_pure _)
      | cases h
  · exact rl_map h
  · exact rl_map h
  · cases h

theorem sem_rl {P : Program} {call : CallFn} (hc : CallRl call) {T : List AV} {op : Op} {s : Sm} (h : sem P call T op = some s) : s.Rls := by
  cases op <;> simp only [sem] at h
  case move x => exact rl_map h
  case assign x => exact rl_map h
  case pick c x y =>
    split at h
    · obtain rfl := Option.some.inj h; exact rl_pure _
    · cases h
  case alloc e =>
    cases hz : tzero P e with
    | none => simp [hz] at h
    | some z => simp [hz] at h; subst h; exact rl_alloc _ _
  case box e x =>
    cases hz : ev P T x with
    | none => simp [hz] at h
    | some z => simp [hz] at h; subst h; exact rl_alloc _ _
  case build t parts =>
    split at h
    · exact rl_map h
    · cases h
  case buildSlice t n parts =>
    split at h
    · unfold buildSliceA at h
      split at h
      · split at h
        · split at h
          · cases h
          · split at h
            · obtain rfl := Option.some.inj h; exact rl_alloc _ _
            · cases h
        · cases h
      · cases h
    · cases h
  case load t x =>
    split at h
    · obtain rfl := Option.some.inj h; exact rl_read _ _
    · cases h
  case store t x y =>
    split at h
    · split at h
      · cases h
      · obtain rfl := Option.some.inj h
        intro H v H' hr
        simp only [Sm.run] at hr
        split at hr
        · rename_i hw
          simp only [Option.some.injEq, Prod.mk.injEq] at hr
          rw [← hr.2]; exact writeCells_rl hw
        · cases hr
    · cases h
  case nilCheck x =>
    split at h
    · obtain rfl := Option.some.inj h; exact rl_pure _
    · obtain rfl := Option.some.inj h; exact rl_pure _
    · cases h
  case binOp op t x y ty =>
    split at h
    · exact binSem_rl h
    · cases h
  case unOp op t x =>
    split at h
    · exact rl_map h
    · cases h
  case convert src dst x =>
    split at h
    · exact convSem_rl h
    · cases h
  case sliceToArrayPointer arr x =>
    split at h
    · split at h
      · cases h
      · split at h
        · cases h
        · obtain rfl := Option.some.inj h; exact rl_pure _
    · cases h
  case makeInterface t x =>
    split at h
    · cases h
    · obtain rfl := Option.some.inj h; exact rl_pure _
    · cases h
  case makeFunc fn first captured =>
    split at h
    · obtain rfl := Option.some.inj h; exact rl_pure _
    · cases h
  case makeMap t r =>
    split at h
    · obtain rfl := Option.some.inj h; exact rl_alloc _ _
    · split at h
      · obtain rfl := Option.some.inj h; exact rl_alloc _ _
      · cases h
    · cases h
  case makeSlice t l c =>
    split at h
    · unfold makeSliceSem at h
      split at h
      · split at h
        · split at h
          · obtain rfl := Option.some.inj h; exact rl_alloc _ _
          · cases h
        · cases h
      · cases h
    · cases h
  case slice t x lo hi mx =>
    split at h
    · exact rl_map h
    · cases h
  case fieldAddr st x f =>
    split at h
    · split at h
      · split at h
        · cases h
        · obtain rfl := Option.some.inj h; exact rl_pure _
      · cases h
    · cases h
  case field t x f =>
    split at h
    · split at h
      · exact rl_map h
      · cases h
    · cases h
  case indexAddr t x ix =>
    split at h
    · exact rl_map h
    · cases h
  case index t x ix =>
    split at h
    · exact rl_map h
    · cases h
  case lookup t x k ok =>
    split at h
    · unfold lookupSem at h
      split at h
      · split at h
        · split at h
          · obtain rfl := Option.some.inj h; exact rl_pure _
          · obtain rfl := Option.some.inj h; exact rl_read _ _
          · cases h
        · cases h
      · cases h
    · cases h
  case mapUpdate t m k x =>
    split at h
    · unfold updateSem at h
      split at h
      · split at h
        · obtain rfl := Option.some.inj h
          intro H v H' hr
          simp only [Sm.run] at hr
          split at hr
          · split at hr
            · simp only [Option.some.injEq, Prod.mk.injEq] at hr
              rw [← hr.2]; (first | exact Rl.refl _ | exact Rl.push _ _ | exact Rl.set (by assumption) _)
            · simp only [Option.some.injEq, Prod.mk.injEq] at hr
              rw [← hr.2]; (first | exact Rl.refl _ | exact Rl.push _ _ | exact Rl.set (by assumption) _)
            · cases hr
          · cases hr
        · cases h
      · cases h
    · cases h
  case insert t m k x =>
    split at h
    · unfold updateSem at h
      split at h
      · split at h
        · obtain rfl := Option.some.inj h
          intro H v H' hr
          simp only [Sm.run] at hr
          split at hr
          · split at hr
            · simp only [Option.some.injEq, Prod.mk.injEq] at hr
              rw [← hr.2]; (first | exact Rl.refl _ | exact Rl.push _ _ | exact Rl.set (by assumption) _)
            · simp only [Option.some.injEq, Prod.mk.injEq] at hr
              rw [← hr.2]; (first | exact Rl.refl _ | exact Rl.push _ _ | exact Rl.set (by assumption) _)
            · cases hr
          · cases hr
        · cases h
      · cases h
    · cases h
  case extract t ix =>
    split at h
    · exact rl_map h
    · cases h
  case range t x =>
    split at h
    · obtain rfl := Option.some.inj h; exact rl_alloc _ _
    · cases h
  case next x st =>
    split at h
    · obtain rfl := Option.some.inj h
      intro H v H' hr
      simp only [Sm.run] at hr
      split at hr
      · split at hr
        · injection hr with hr; injection hr with _ hr; rw [← hr]; exact Rl.set (by assumption) _
        · injection hr with hr; injection hr with _ hr; rw [← hr]; exact Rl.refl _
      · cases hr
    · cases h
  case call c =>
    unfold callSem at h
    split at h
    · cases h
    split at h
    · exact builtinSem_rl h
    · split at h
      · obtain rfl := Option.some.inj h
        intro H v H' hr
        exact hc _ _ _ _ _ hr
      · cases h
    · cases h
  all_goals cases h

theorem runOp_rl {P : Program} {call : CallFn} (hc : CallRl call) {T : List AV} {o : Oper} {H H' : Heap} {v : AV} (h : runOp P call T o H = some (v, H')) : Rl H H' := by
  unfold runOp at h
  split at h
  · rename_i s hs
    exact sem_rl hc hs H v H' h
  · cases h

theorem runOps_rl {P : Program} {call : CallFn} (hc : CallRl call) {ops : Array Oper} : ∀ {os : List Oper} {T T' : List AV} {H H' : Heap}, runOps P call ops os T H = some (T', H') → Rl H H'
  | [], T, T', H, H', h => by
    simp only [runOps, Option.some.injEq, Prod.mk.injEq] at h
    rw [h.2]; exact Rl.refl _
  | o :: os, T, T', H, H', h => by
    simp only [runOps] at h
    split at h
    · split at h
      · rename_i v H1 h1
        exact Rl.trans (runOp_rl hc h1) (runOps_rl hc h)
      · cases h
    · exact runOps_rl hc h

theorem dstep_rl {P : Program} {call : CallFn} (hc : CallRl call) {ops : Array Oper} {b : Array Nat} {hv : List Nat} {n0 i : Nat} {s s' : St} (h : dstep P call ops b hv n0 i s = some s') : Rl s.H s'.H := by
  unfold dstep at h
  split at h
  · cases h
  split at h
  · split at h
    · split at h
      · rename_i v H1 h1
        obtain rfl := Option.some.inj h
        exact runOp_rl hc h1
      · cases h
    · obtain rfl := Option.some.inj h
      exact Rl.refl _
  · split at h
    · rename_i v x _
      obtain rfl := Option.some.inj h
      cases x with
      | none => exact Rl.refl _
      | some o => exact Rl.push _ _
    · cases h

theorem drun_rl {P : Program} {call : CallFn} (hc : CallRl call) {ops : Array Oper} {b : Array Nat} {hv : List Nat} {n0 : Nat} : ∀ {is : List Nat} {s s' : St}, drun P call ops b hv n0 is s = some s' → Rl s.H s'.H
  | [], s, s', h => by
    simp only [drun, Option.some.injEq] at h
    rw [h]; exact Rl.refl _
  | i :: is, s, s', h => by
    simp only [drun] at h
    split at h
    · rename_i s1 h1
      exact Rl.trans (dstep_rl hc h1) (drun_rl hc h)
    · cases h

theorem runRegion_rl {P : Program} {call : CallFn} (hc : CallRl call) {ops : Array Oper} {draw : Bool} {T T' : List AV} {H H' : Heap} (h : runRegion P call ops draw T H = some (T', H')) : Rl H H' := by
  unfold runRegion at h
  split at h
  · unfold drawRun at h
    split at h
    · split at h
      · rename_i s hs
        simp only [Option.some.injEq, Prod.mk.injEq] at h
        rw [← h.2]
        exact drun_rl hc hs
      · cases h
    · cases h
  · exact runOps_rl hc h

theorem runLoop_rl {f : List AV → Heap → Out} (hf : ∀ T H e T' H', f T H = some (e, T', H') → Rl H H') : ∀ (n : Nat) (T T' : List AV) (H H' : Heap) (e : AX), runLoop f n T H = some (e, T', H') → Rl H H'
  | 0, T, T', H, H', e, h => by cases h
  | n + 1, T, T', H, H', e, h => by
    simp only [runLoop] at h
    split at h
    · rename_i T1 H1 h1
      exact Rl.trans (hf _ _ _ _ _ h1) (runLoop_rl hf n _ _ _ _ _ h)
    · exact hf _ _ _ _ _ h

theorem seqRun_rl {f : AV → Heap → Out} {T : List AV} (hf : ∀ x H e T' H', f x H = some (e, T', H') → Rl H H') : ∀ (xs : List AV) (T' : List AV) (H H' : Heap) (e : AX), seqRun f T xs H = some (e, T', H') → Rl H H'
  | [], T', H, H', e, h => by simp only [seqRun, Option.some.injEq, Prod.mk.injEq] at h; rw [h.2.2]; exact Rl.refl _
  | x :: xs, T', H, H', e, h => by
    simp only [seqRun] at h
    split at h
    · rename_i h1
      exact Rl.trans (hf _ _ _ _ _ h1) (seqRun_rl hf xs _ _ _ _ h)
    · rename_i h1
      simp only [Option.some.injEq, Prod.mk.injEq] at h
      rw [← h.2.2]
      exact hf _ _ _ _ _ h1
    · cases h
theorem thenRun_rl {f g : List AV → Heap → Out} (hf : ∀ T H e T' H', f T H = some (e, T', H') → Rl H H') (hg : ∀ T H e T' H', g T H = some (e, T', H') → Rl H H') : ∀ T H e T' H', thenRun f g T H = some (e, T', H') → Rl H H' := by
  intro T H e T' H' h
  unfold thenRun at h
  split at h
  · rename_i h1
    exact Rl.trans (hf _ _ _ _ _ h1) (hg _ _ _ _ _ h)
  · cases h

theorem runCode_rl {P : Program} {call : CallFn} (hc : CallRl call) {n : Nat} : ∀ (c : Code) (T T' : List AV) (H H' : Heap) (e : AX), runCode P call n c T H = some (e, T', H') → Rl H H' := by
  intro c
  induction c with
  | skip => intro T T' H H' e h; simp only [runCode, Option.some.injEq, Prod.mk.injEq] at h; rw [h.2.2]; exact Rl.refl _
  | label l => intro T T' H H' e h; simp only [runCode, Option.some.injEq, Prod.mk.injEq] at h; rw [h.2.2]; exact Rl.refl _
  | region id ops draw =>
    intro T T' H H' e h
    simp only [runCode] at h
    split at h
    · rename_i T1 H1 h1
      simp only [Option.some.injEq, Prod.mk.injEq] at h
      rw [← h.2.2]
      exact runRegion_rl hc h1
    · cases h
  | seq a b iha ihb =>
    intro T T' H H' e h
    simp only [runCode] at h
    split at h
    · rename_i T1 H1 h1
      exact Rl.trans (iha _ _ _ _ _ h1) (ihb _ _ _ _ _ h)
    · exact iha _ _ _ _ _ h
  | cond c x y ihx ihy =>
    intro T T' H H' e h
    simp only [runCode] at h
    split at h
    · exact ihx _ _ _ _ _ h
    · exact ihy _ _ _ _ _ h
    · cases h
  | block id body ih =>
    intro T T' H H' e h
    simp only [runCode] at h
    split at h
    · rename_i id' T1 H1 h1
      split at h
      · simp only [Option.some.injEq, Prod.mk.injEq] at h
        rw [← h.2.2]
        exact ih _ _ _ _ _ h1
      · simp only [Option.some.injEq, Prod.mk.injEq] at h
        rw [← h.2.2]
        exact ih _ _ _ _ _ h1
    · exact ih _ _ _ _ _ h
  | loop body ih =>
    intro T T' H H' e h
    simp only [runCode] at h
    exact runLoop_rl (fun T H e T' H' h => ih T T' H H' e h) n T T' H H' e h
  | exit id => intro T T' H H' e h; simp only [runCode, Option.some.injEq, Prod.mk.injEq] at h; rw [h.2.2]; exact Rl.refl _
  | scope body ih => intro T T' H H' e h; simp only [runCode] at h; exact ih _ _ _ _ _ h
  | ret => intro T T' H H' e h; simp only [runCode, Option.some.injEq, Prod.mk.injEq] at h; rw [h.2.2]; exact Rl.refl _
  | rangeFunc f ps a b iha ihb =>
    intro T T' H H' e h
    simp only [runCode] at h
    split at h
    · split at h
      · split at h
        · rename_i hq
          exact Rl.trans (hc _ _ _ _ _ hq) (seqRun_rl (fun x H e T' H' h => thenRun_rl (fun T H e T' H' h => iha T T' H H' e h) (fun T H e T' H' h => ihb T T' H H' e h) _ _ _ _ _ h) _ _ _ _ _ h)
        · cases h
      · cases h
    · cases h
  | goto l => intro T T' H H' e h; simp [runCode] at h
  | refuse why => intro T T' H H' e h; simp [runCode] at h

theorem runBody_rl {P : Program} {call : CallFn} (hc : CallRl call) {n : Nat} {fn : Func} {args : List AV} {H H' : Heap} {v : AV} (h : runBody P call n fn args H = some (v, H')) : Rl H H' := by
  unfold runBody at h
  split at h
  · cases h
  split at h
  · rename_i h1
    split at h
    · simp only [Option.some.injEq, Prod.mk.injEq] at h
      rw [← h.2]
      exact runCode_rl hc _ _ _ _ _ _ h1
    · cases h
  · rename_i h1
    split at h
    · simp only [Option.some.injEq, Prod.mk.injEq] at h
      rw [← h.2]
      exact runCode_rl hc _ _ _ _ _ _ h1
    · cases h
  · cases h

def PrimsRl (prims : Prims) : Prop := ∀ f g, prims f = some g → ∀ args H v H', g args H = some (v, H') → Rl H H'

theorem acall_rl {P : Program} {prims : Prims} (hp : PrimsRl prims) : ∀ n, CallRl (acall P prims n)
  | 0 => by intro f args H v H' h; cases h
  | n + 1 => by
    intro f args H v H' h
    simp only [acall] at h
    split at h
    · rename_i g hg
      exact hp f g hg _ _ _ _ h
    · split at h
      · exact runBody_rl (acall_rl hp n) h
      · cases h

end Go.Abs

/- The walking rules anew: that nothing lies beyond the next number is carried along unseen; a region that draws its order is walked in one order where no look could tell. -/
namespace Go.Abs
set_option linter.unusedVariables false
set_option linter.unusedSimpArgs false

section
variable (P : Program) (prims : Prims) (N : Nat)
def Cl (f : FuncId) (args : List AV) (H : Heap) (K : AV → Heap → Prop) : Prop := PrimsRl prims → Wf H → CallsA P prims f args H K
def Wq (c : Code) (e : Nat → AV) (H : Heap) (Q : Post) : Prop := PrimsRl prims → Wf H → Wp P prims N c e H Q
def Oq (ops : Array Oper) (l : List Oper) (e : Nat → AV) (H : Heap) (K : (Nat → AV) → Heap → Prop) : Prop := PrimsRl prims → Wf H → Ops P prims N ops l e H K
end

section
variable {P : Program} {prims : Prims} {N : Nat}

theorem CallsA.rl {f : FuncId} {args : List AV} {H : Heap} {K : AV → Heap → Prop} (hp : PrimsRl prims) (h : CallsA P prims f args H K) : CallsA P prims f args H fun v H' => Rl H H' ∧ K v H' := by
  unfold CallsA at h ⊢
  obtain ⟨n, v, H', hr, k⟩ := h
  exact ⟨n, v, H', hr, acall_rl hp n _ _ _ _ _ hr, k⟩
theorem Wp.rl {c : Code} {e : Nat → AV} {H : Heap} {Q : Post} (hp : PrimsRl prims) (h : Wp P prims N c e H Q) : Wp P prims N c e H fun x e' H' => Rl H H' ∧ Q x e' H' := by
  unfold Wp at h ⊢
  obtain ⟨n, x, e', H', hr, k⟩ := h
  exact ⟨n, x, e', H', hr, runCode_rl (acall_rl hp n) _ _ _ _ _ _ hr, k⟩
theorem Ops.mono {ops : Array Oper} {l : List Oper} {e : Nat → AV} {H : Heap} {K L : (Nat → AV) → Heap → Prop} (h : Ops P prims N ops l e H K) (hk : ∀ e' H', K e' H' → L e' H') : Ops P prims N ops l e H L := by
  unfold Ops at h ⊢
  obtain ⟨n, e', H', hr, k⟩ := h
  exact ⟨n, e', H', hr, hk _ _ k⟩
theorem Ops.rl {ops : Array Oper} {l : List Oper} {e : Nat → AV} {H : Heap} {K : (Nat → AV) → Heap → Prop} (hp : PrimsRl prims) (h : Ops P prims N ops l e H K) : Ops P prims N ops l e H fun e' H' => Rl H H' ∧ K e' H' := by
  unfold Ops at h ⊢
  obtain ⟨n, e', H', hr, k⟩ := h
  exact ⟨n, e', H', hr, runOps_rl (acall_rl hp n) hr, k⟩

/-- A contract used: numbers have only grown. -/
theorem Cl.mono {f : FuncId} {args : List AV} {H : Heap} {K L : AV → Heap → Prop} (h : Cl P prims f args H K) (hk : ∀ v H', H.next ≤ H'.next → K v H' → L v H') : Cl P prims f args H L :=
  fun hp hw => ((h hp hw).rl hp).mono fun v H' ⟨r, k⟩ => hk v H' r.1 k
theorem Wq.mono {c : Code} {e : Nat → AV} {H : Heap} {Q R : Post} (h : Wq P prims N c e H Q) (hk : ∀ x e' H', H.next ≤ H'.next → Q x e' H' → R x e' H') : Wq P prims N c e H R :=
  fun hp hw => ((h hp hw).rl hp).mono fun x e' H' ⟨r, k⟩ => hk x e' H' r.1 k
/-- What is below the next number, wherever it is wanted. -/
theorem Cl.wf {f : FuncId} {args : List AV} {H : Heap} {K : AV → Heap → Prop} (h : Wf H → Cl P prims f args H K) : Cl P prims f args H K := fun hp hw => h hw hp hw
theorem Wq.wf {c : Code} {e : Nat → AV} {H : Heap} {Q : Post} (h : Wf H → Wq P prims N c e H Q) : Wq P prims N c e H Q := fun hp hw => h hw hp hw
theorem Oq.wf {ops : Array Oper} {l : List Oper} {e : Nat → AV} {H : Heap} {K : (Nat → AV) → Heap → Prop} (h : Wf H → Oq P prims N ops l e H K) : Oq P prims N ops l e H K := fun hp hw => h hw hp hw
/-- Here the memory is well formed. -/
def WfK (K : AV → Heap → Prop) : AV → Heap → Prop := fun v H => Wf H → K v H
theorem Cl.wfK {f : FuncId} {args : List AV} {H : Heap} {K : AV → Heap → Prop} (h : Cl P prims f args H (WfK K)) : Cl P prims f args H K :=
  fun hp hw => ((h hp hw).rl hp).mono fun v H' ⟨r, k⟩ => k (r.2 hw)

theorem Wq.skip {e : Nat → AV} {H : Heap} {Q : Post} (h : Q .normal e H) : Wq P prims N .skip e H Q := fun _ _ => Wp.skip h
theorem Wq.ret {e : Nat → AV} {H : Heap} {Q : Post} (h : Q .ret e H) : Wq P prims N .ret e H Q := fun _ _ => Wp.ret h
theorem Wq.exit {id : Nat} {e : Nat → AV} {H : Heap} {Q : Post} (h : Q (.exit id) e H) : Wq P prims N (.exit id) e H Q := fun _ _ => Wp.exit h
theorem Wq.scope {c : Code} {e : Nat → AV} {H : Heap} {Q : Post} (h : Wq P prims N c e H Q) : Wq P prims N (.scope c) e H Q := fun hp hw => Wp.scope (h hp hw)

def Thenq (P : Program) (prims : Prims) (N : Nat) (b : Code) (Q : Post) : Post
  | .normal, e, H => Wq P prims N b e H Q
  | .exit id, e, H => Q (.exit id) e H
  | .ret, e, H => Q .ret e H
theorem Thenq.normal {b : Code} {Q : Post} {e : Nat → AV} {H : Heap} (h : Wq P prims N b e H Q) : Thenq P prims N b Q .normal e H := h
theorem Thenq.exit {b : Code} {Q : Post} {e : Nat → AV} {H : Heap} {id : Nat} (h : Q (.exit id) e H) : Thenq P prims N b Q (.exit id) e H := h
theorem Thenq.ret {b : Code} {Q : Post} {e : Nat → AV} {H : Heap} (h : Q .ret e H) : Thenq P prims N b Q .ret e H := h

theorem Wq.seq {a b : Code} {e : Nat → AV} {H : Heap} {Q : Post} (h : Wq P prims N a e H (Thenq P prims N b Q)) : Wq P prims N (.seq a b) e H Q := by
  intro hp hw
  refine Wp.seq (((h hp hw).rl hp).mono fun x e' H' ⟨r, k⟩ => ?_)
  cases x with
  | normal =>
    have k' : Wq P prims N b e' H' Q := k
    exact Then.normal (k' hp (r.2 hw))
  | exit id => exact Then.exit k
  | ret => exact Then.ret k

theorem Wq.cond {c : Operand} {x y : Code} {e : Nat → AV} {H : Heap} {Q : Post} {b : Bool} (hc : ev P (tab N e) c = some (.bool b))
    (hx : b = true → Wq P prims N x e H Q) (hy : b = false → Wq P prims N y e H Q) : Wq P prims N (.cond c x y) e H Q :=
  fun hp hw => Wp.cond hc (fun h => hx h hp hw) (fun h => hy h hp hw)
theorem Wq.condT {c : Operand} {x y : Code} {e : Nat → AV} {H : Heap} {Q : Post} (hc : ev P (tab N e) c = some (.bool true)) (hx : Wq P prims N x e H Q) : Wq P prims N (.cond c x y) e H Q := fun hp hw => Wp.condT hc (hx hp hw)
theorem Wq.condF {c : Operand} {x y : Code} {e : Nat → AV} {H : Heap} {Q : Post} (hc : ev P (tab N e) c = some (.bool false)) (hy : Wq P prims N y e H Q) : Wq P prims N (.cond c x y) e H Q := fun hp hw => Wp.condF hc (hy hp hw)
theorem Wq.condD {c : Operand} {x y : Code} {e : Nat → AV} {H : Heap} {Q : Post} {p : Prop} [Decidable p] (hc : ev P (tab N e) c = some (.bool (decide p)))
    (hx : p → Wq P prims N x e H Q) (hy : ¬ p → Wq P prims N y e H Q) : Wq P prims N (.cond c x y) e H Q :=
  fun hp hw => Wp.condD hc (fun h => hx h hp hw) (fun h => hy h hp hw)
theorem Wq.block {id : Nat} {c : Code} {e : Nat → AV} {H : Heap} {Q : Post} (h : Wq P prims N c e H (Left id Q)) : Wq P prims N (.block id c) e H Q := fun hp hw => Wp.block (h hp hw)

/-- What is wanted behind a round. -/
def Roundq (I : Nat → (Nat → AV) → Heap → Prop) (m : Nat) (Q : Post) : Post
  | .normal, e, H => ∃ m', m' < m ∧ I m' e H
  | .exit id, e, H => Q (.exit id) e H
  | .ret, e, H => Q .ret e H
theorem Roundq.exit {I : Nat → (Nat → AV) → Heap → Prop} {m : Nat} {Q : Post} {e : Nat → AV} {H : Heap} {id : Nat} (h : Q (.exit id) e H) : Roundq I m Q (.exit id) e H := h
theorem Roundq.ret {I : Nat → (Nat → AV) → Heap → Prop} {m : Nat} {Q : Post} {e : Nat → AV} {H : Heap} (h : Q .ret e H) : Roundq I m Q .ret e H := h
theorem Roundq.normal {I : Nat → (Nat → AV) → Heap → Prop} {m : Nat} {Q : Post} {e : Nat → AV} {H : Heap} (m' : Nat) (hm : m' < m) (h : I m' e H) : Roundq I m Q .normal e H := ⟨m', hm, h⟩
theorem Wq.loop {c : Code} {Q : Post} {e : Nat → AV} {H : Heap} (I : Nat → (Nat → AV) → Heap → Prop) (m : Nat) (h0 : I m e H) (hround : ∀ m e H, I m e H → Wq P prims N c e H (Roundq I m Q)) : Wq P prims N (.loop c) e H Q := by
  intro hp hw
  refine Wp.loop (fun m e H => Wf H ∧ I m e H) (fun m e H ⟨w, i⟩ => ?_) (m := m) ⟨hw, h0⟩
  refine ((hround m e H i hp w).rl hp).mono fun x e' H' ⟨r, k⟩ => ?_
  cases x with
  | normal =>
    obtain ⟨m', hm, hi⟩ := k
    exact Round.normal m' hm ⟨r.2 w, hi⟩
  | exit id => exact Round.exit k
  | ret => exact Round.ret k

theorem Wq.region {id : Nat} {ops : Array Oper} {e : Nat → AV} {H : Heap} {Q : Post} (h : Oq P prims N ops ops.toList e H (Q .normal)) : Wq P prims N (.region id ops false) e H Q := fun hp hw => Wp.region (h hp hw)

/-! ## operations -/
theorem runOp_opR {o : Oper} {e : Nat → AV} {H : Heap} {r : AV × Heap} (h : opR P N e o.op H = some r) : runOp P noCall (tab N e) o H = some r := by
  rw [opR_eq] at h
  unfold runOp
  exact h
section
variable {ops : Array Oper} {d : Tmp} {op : Op} {t : TypeId} {pos : String} {after : Array Edge} {os : List Oper} {e : Nat → AV} {H H' : Heap} {K : (Nat → AV) → Heap → Prop} {v : AV}
theorem Oq.nil (h : K e H) : Oq P prims N ops [] e H K := fun _ _ => Ops.nil h
theorem Oq.cons {o : Oper} (hg : wantedA ops (tab N e) o = true) (h : PrimsRl prims → Wf H → OpR P prims N o e H fun v H' => Oq P prims N ops os (setEO e o.dst v) H' K) : Oq P prims N ops (o :: os) e H K := by
  intro hp hw
  have h' := h hp hw
  refine Ops.cons hg ?_
  unfold OpR at h' ⊢
  obtain ⟨n, v, H', hr, k⟩ := h'
  exact ⟨n, v, H', hr, k hp ((runOp_rl (acall_rl hp n) hr).2 hw)⟩
theorem Oq.o1 (hr : opR P N e op H = some (v, H')) (h : Oq P prims N ops os (setE e d v) H' K) : Oq P prims N ops ({ dst := some d, op := op, type := t, pos := pos, after := after, guard := none } :: os) e H K :=
  Oq.cons rfl fun _ _ => OpR.mk (runOp_opR hr) h
theorem Oq.o0 (hr : opR P N e op H = some (v, H')) (h : Oq P prims N ops os e H' K) : Oq P prims N ops ({ dst := none, op := op, type := t, pos := pos, after := after, guard := none } :: os) e H K :=
  Oq.cons rfl fun _ _ => OpR.mk (runOp_opR hr) h
theorem Oq.gop {j : Nat} {want : Bool} {d' : Tmp} (hj : yDst ops j = some d') (hN : d' < N) (hb : e d' = .bool want)
    (hr : opR P N e op H = some (v, H')) (h : Oq P prims N ops os (setE e d v) H' K) : Oq P prims N ops ({ dst := some d, op := op, type := t, pos := pos, after := after, guard := some (j, want) } :: os) e H K :=
  Oq.cons (by rw [wanted_guard rfl hj hN hb]; simp) fun _ _ => OpR.mk (runOp_opR hr) h
theorem Oq.gop0 {j : Nat} {want : Bool} {d' : Tmp} (hj : yDst ops j = some d') (hN : d' < N) (hb : e d' = .bool want)
    (hr : opR P N e op H = some (v, H')) (h : Oq P prims N ops os e H' K) : Oq P prims N ops ({ dst := none, op := op, type := t, pos := pos, after := after, guard := some (j, want) } :: os) e H K :=
  Oq.cons (by rw [wanted_guard rfl hj hN hb]; simp) fun _ _ => OpR.mk (runOp_opR hr) h
theorem Oq.gskip {j : Nat} {want : Bool} {d' : Tmp} (hj : yDst ops j = some d') (hN : d' < N) (hb : e d' = .bool !want)
    (h : Oq P prims N ops os (setE e d .undef) H K) : Oq P prims N ops ({ dst := some d, op := op, type := t, pos := pos, after := after, guard := some (j, want) } :: os) e H K :=
  fun hp hw => Ops.gskip hj hN hb (h hp hw)
theorem Oq.gskip0 {j : Nat} {want : Bool} {d' : Tmp} (hj : yDst ops j = some d') (hN : d' < N) (hb : e d' = .bool !want)
    (h : Oq P prims N ops os e H K) : Oq P prims N ops ({ dst := none, op := op, type := t, pos := pos, after := after, guard := some (j, want) } :: os) e H K :=
  fun hp hw => Ops.gskip0 hj hN hb (h hp hw)
/-- A guard that is not decided: both ways. -/
theorem Oq.gsplit {o : Oper} {j : Nat} {want b : Bool} {d' : Tmp} (ho : o.guard = some (j, want)) (hj : yDst ops j = some d') (hN : d' < N) (hb : e d' = .bool b)
    (h1 : b = true → Oq P prims N ops (o :: os) e H K) (h2 : b = false → Oq P prims N ops (o :: os) e H K) : Oq P prims N ops (o :: os) e H K := by
  cases b
  · exact h2 rfl
  · exact h1 rfl

theorem OpR.mono {o : Oper} {K L : AV → Heap → Prop} (h : OpR P prims N o e H K) (hk : ∀ v H', K v H' → L v H') : OpR P prims N o e H L := by
  unfold OpR at h ⊢
  obtain ⟨n, v, H', hr, k⟩ := h
  exact ⟨n, v, H', hr, hk _ _ k⟩
section
variable {x : Operand} {xs : Array Operand} {ts : Array TypeId} {f : FuncId} {first captured args all : List AV}
theorem Oq.call (hf : ev P (tab N e) x = some (.func (.func f) first captured)) (ha : mapOpt (ev P (tab N e)) xs.toList = some args) (hall : first ++ args ++ captured = all)
    (h : Cl P prims f all H fun v H' => Oq P prims N ops os (setE e d v) H' K) :
    Oq P prims N ops ({ dst := some d, op := .call { callee := .value x, args := xs, argTypes := ts }, type := t, pos := pos, after := after, guard := none } :: os) e H K :=
  Oq.cons rfl fun hp hw => OpR.callv hf ha hall (h hp hw)
theorem Oq.call0 (hf : ev P (tab N e) x = some (.func (.func f) first captured)) (ha : mapOpt (ev P (tab N e)) xs.toList = some args) (hall : first ++ args ++ captured = all)
    (h : Cl P prims f all H fun v H' => Oq P prims N ops os e H' K) :
    Oq P prims N ops ({ dst := none, op := .call { callee := .value x, args := xs, argTypes := ts }, type := t, pos := pos, after := after, guard := none } :: os) e H K :=
  Oq.cons rfl fun hp hw => OpR.callv hf ha hall (h hp hw)
theorem Oq.gcall {j : Nat} {want : Bool} {d' : Tmp} (hj : yDst ops j = some d') (hN : d' < N) (hb : e d' = .bool want)
    (hf : ev P (tab N e) x = some (.func (.func f) first captured)) (ha : mapOpt (ev P (tab N e)) xs.toList = some args) (hall : first ++ args ++ captured = all)
    (h : Cl P prims f all H fun v H' => Oq P prims N ops os (setE e d v) H' K) :
    Oq P prims N ops ({ dst := some d, op := .call { callee := .value x, args := xs, argTypes := ts }, type := t, pos := pos, after := after, guard := some (j, want) } :: os) e H K :=
  Oq.cons (by rw [wanted_guard rfl hj hN hb]; simp) fun hp hw => OpR.callv hf ha hall (h hp hw)
theorem Oq.append {v x : AV} {n m u t1 bytes s : Nat} {z cs new : List AV}
    (ha : mapOpt (ev P (tab N e)) xs.toList = some [v, x]) (ht : ∃ t0, ts[0]? = some t0 ∧ elemF P t0 = some (u, bytes, s, z)) (ht1 : ts[1]? = some t1) (hu1 : (P.underlying t1).isSome = true) (hc : isCount P (some t1) = false)
    (own : OwnSl H u s v n cs) (hx : srcLen x = some m ∧ srcCells H s m x = some new) (hl : new.length = m * s) (hone : new.all AV.one = true) (hb : (n + m) * bytes ≤ 2 ^ 46) (hn : n + m ≤ 2 ^ 46)
    (h : ∀ v' H', OwnSl H' u s v' (n + m) (cs ++ new) → ButOne (slBlock v) H H' → (slBlock v' = slBlock v ∨ slBlock v' = some H.next) → Oq P prims N ops os (setE e d v') H' K) :
    Oq P prims N ops ({ dst := some d, op := .call { callee := .builtin .append, args := xs, argTypes := ts }, type := t, pos := pos, after := after, guard := none } :: os) e H K := by
  intro hp hw
  have : Ops P prims N ops ({ dst := some d, op := .call { callee := .builtin .append, args := xs, argTypes := ts }, type := t, pos := pos, after := after, guard := none } :: os) e H K :=
    Ops.append ha ht ht1 hu1 hc own hx.1 hx.2 hl hone hb hn fun v' H' a b c => h v' H' a b c hp (b.2.1 hw)
  exact this
end
end

/-! ## a body -/
theorem Cl.enter {f : FuncId} {fn : Func} {c : Code} {args : List AV} {H : Heap} {K : AV → Heap → Prop} (hf : P.funcs[f]? = some fn) (hp : prims f = none) (hb : fn.body = some c) (hN : fn.ntmps = N)
    (hl : args.length ≤ N) (h : Wq P prims N c (argEnv args) H (Ret P N fn.results.toList K)) : Cl P prims f args H K :=
  fun hpr hw => CallsA.enter hf hp hb hN hl (h hpr hw)
theorem Cl.prim {f : FuncId} {g : List AV → Heap → Option (AV × Heap)} {args : List AV} {H H' : Heap} {v : AV} {K : AV → Heap → Prop} (hp : prims f = some g) (h : g args H = some (v, H')) (k : K v H') : Cl P prims f args H K :=
  fun _ _ => CallsA.prim hp h k

/-! ## regions that draw their order -/
/-- Operations that look at no block. -/
def blind (P : Program) : Op → Bool
  | .move _ | .assign _ | .pick _ _ _ | .fieldAddr _ _ _ | .nilCheck _ | .extract _ _ | .indexAddr _ _ _ | .field _ _ _ | .makeFunc _ _ _ | .unOp _ _ _ | .slice _ _ _ _ _ | .index _ _ _ | .build _ _ | .box _ _ | .alloc _ | .buildSlice _ _ _ | .makeMap _ _ | .makeSlice _ _ _ => true
  | .binOp _ t _ _ _ => match P.underlying t with | some (.pointer _) => false | _ => true
  | .convert _ t _ => match P.underlying t with | some (.int _) => true | _ => false
  | .call c => match c.callee with
    | .builtin b => match b with
      | .len => match c.argTypes[0]? with
        | some t => match P.underlying t with | some (.slice _) => true | some .string => true | _ => false
        | none => false
      | .min | .max => true
      | _ => false
    | _ => false
  | _ => false
theorem eqSem_blind {P : Program} {t : TypeId} {x y : AV} {neg : Bool} {bs : List Nat} {k : List AObj → Option AV} (ht : ∀ u, P.underlying t ≠ some (.pointer u)) : eqSem P t x y neg ≠ some (.read bs k) := by
  intro h
  unfold eqSem at h
  (repeat' split at h) <;> first | (simp at h; done) | (rename_i hu _ _ _; exact ht _ hu) | (exact ht _ (by assumption))
theorem blind_ok {call : CallFn} {T : List AV} {op : Op} (hb : blind P op = true) {bs : List Nat} {k : List AObj → Option AV} : sem P call T op ≠ some (.read bs k) := by
  intro h
  cases op <;> simp only [blind] at hb
  case binOp op t x y u =>
    have ht : ∀ u, P.underlying t ≠ some (.pointer u) := by
      intro u hu
      simp only [hu] at hb
      cases hb
    simp only [sem] at h
    split at h
    · unfold binSem at h
      (repeat' split at h) <;> first | (exact eqSem_blind ht h) | (simp at h; done)
    · cases h
  case convert s t x =>
    simp only [sem] at h
    split at h
    · unfold convSem at h
      split at hb
      · rename_i hu
        (repeat' split at h) <;> first | (simp at h; done) | (rename_i h1 h2; simp [hu] at h2; done) | (simp_all; done)
      · cases hb
    · cases h
  case call c =>
    simp only [sem, callSem] at h
    split at hb
    · rename_i b hc
      simp only [hc] at h
      split at h
      · cases h
      · unfold builtinSem at h
        split at hb
        · split at h <;> first | (simp at *; done) | skip
          split at hb
          · rename_i t ht
            unfold lenSem at h
            simp only [ht] at h
            split at hb
            · rename_i u hu
              simp only [hu] at h
              (repeat' split at h) <;> simp_all
            · rename_i hu
              simp only [hu] at h
              (repeat' split at h) <;> simp_all
            · cases hb
          · cases hb
        · (repeat' split at h) <;> first | (simp at *; done) | (simp at h; done)
        · (repeat' split at h) <;> first | (simp at *; done) | (simp at h; done)
        · cases hb
    · cases hb
  case buildSlice t n ps =>
    simp only [sem] at h
    split at h
    · unfold buildSliceA at h
      (repeat' split at h) <;> simp at h
    · cases h
  case makeSlice t a b =>
    simp only [sem] at h
    split at h
    · unfold makeSliceSem at h
      (repeat' split at h) <;> simp at h
    · cases h
  all_goals first | (cases hb; done) | skip
  all_goals (simp only [sem] at h; first | (cases h; done) | (simp at h; done) | ((repeat' split at h) <;> simp at h))

/-- In this order, each look at memory comes where all that may write ahead of it must. -/
def calm (P : Program) (ops : Array Oper) : List Nat → Nat → Bool
  | [], _ => true
  | i :: is, k => match ops[i]? with
    | some o => if isHeavy P o.op then calm P ops is (k + 1) else (blind P o.op || decide (k ≤ loOf P ops i)) && calm P ops is k
    | none => false

def pickOps (ops : Array Oper) : List Nat → List Oper
  | [] => []
  | i :: is => match ops[i]? with
    | some o => o :: pickOps ops is
    | none => []

theorem drun_of_ops {ops : Array Oper} {n n0 : Nat} (hp : PrimsRl prims) : ∀ {is : List Nat} {k : Nat} {e e' : Nat → AV} {H H' : Heap} {snaps : List Heap}, calm P ops is k = true → snaps.length = k + 1 → Wf H →
    runOps P (acall P prims n) ops (pickOps ops is) (tab N e) H = some (tab N e', H') →
    ∃ sn, drun P (acall P prims n) ops (befores ops) (heavies P ops.toList 0) n0 is { T := tab N e, H := H, snaps := snaps } = some { T := tab N e', H := H', snaps := sn }
  | [], k, e, e', H, H', snaps, _, _, _, h => by
    simp only [pickOps, runOps, Option.some.injEq, Prod.mk.injEq] at h
    exact ⟨snaps, by simp [drun, h.1, h.2]⟩
  | i :: is, k, e, e', H, H', snaps, hc, hs, hw, h => by
    unfold calm at hc
    cases ho : ops[i]? with
    | none => simp [ho] at hc
    | some o =>
      simp only [ho] at hc
      simp only [pickOps, ho, runOps] at h
      unfold drun dstep
      simp only [ho]
      by_cases hwant : wantedA ops (tab N e) o = true
      · rw [if_pos hwant] at h
        cases hr : runOp P (acall P prims n) (tab N e) o H with
        | none => rw [hr] at h; cases h
        | some r =>
          obtain ⟨v, H1⟩ := r
          rw [hr] at h
          simp only [put_tab] at h
          have hw1 := (runOp_rl (acall_rl hp n) hr).2 hw
          by_cases hh : isHeavy P o.op = true
          · rw [if_pos hh] at hc ⊢
            rw [if_pos hwant]
            simp only [put_tab]
            exact drun_of_ops hp hc (by simp [hs]) hw1 h
          · rw [if_neg hh] at hc ⊢
            have hh' : isHeavy P o.op = false := by simpa using hh
            rw [Bool.and_eq_true, Bool.or_eq_true] at hc
            obtain ⟨hc1, hc2⟩ := hc
            have hr0 : opR P N e o.op H = some (v, H1) := by
              rw [opR_eq]
              unfold runOp at hr
              rcases sem_le (P := P) (noCall_le (acall P prims n)) (tab N e) o.op with h1 | ⟨k1, l, h1, h2, _⟩
              · rw [← h1] at hr; exact hr
              · exact absurd h1 (sem_light hh')
            have hm : snaps.length - loOf P ops i ≤ 1 ∨ ∀ bs k, sem P noCall (tab N e) o.op = some (.read bs k) → ∀ b ∈ bs, Calm H n0 snaps (snaps.length - loOf P ops i) b := by
              rcases hc1 with hb | hb
              · right; intro bs k hsem; exact absurd hsem (blind_ok hb)
              · left; have := of_decide_eq_true hb; omega
            obtain ⟨x, hl, hpush⟩ := light_of_opR (call := acall P prims n) (noCall_le _) hh' hwant hw hr0 hm
            rw [hl]
            simp only [put_tab, hpush]
            exact drun_of_ops hp hc2 hs hw1 h
      · rw [if_neg hwant] at h
        simp only [put_tab] at h
        by_cases hh : isHeavy P o.op = true
        · rw [if_pos hh] at hc ⊢
          rw [if_neg hwant]
          simp only [put_tab]
          exact drun_of_ops hp hc (by simp [hs]) hw h
        · rw [if_neg hh] at hc ⊢
          rw [Bool.and_eq_true] at hc
          unfold lightRes
          rw [if_neg hwant]
          simp only [put_tab, pushO]
          exact drun_of_ops hp hc.2 hs hw h

/-- The order c is the one in which the abstract machine runs the region, and no look could tell another one. -/
def dCalm (P : Program) (ops : Array Oper) (c : List Nat) : Bool := dOk P ops c && calm P ops c 0

theorem Wq.regionD {id : Nat} {ops : Array Oper} {e : Nat → AV} {H : Heap} {Q : Post} (c : List Nat) (hc : dCalm P ops c = true) (h : Oq P prims N ops (pickOps ops c) e H (Q .normal)) : Wq P prims N (.region id ops true) e H Q := by
  intro hp hw
  unfold dCalm at hc
  rw [Bool.and_eq_true] at hc
  refine Wp.regionD c hc.1 ?_
  have h' := h hp hw
  unfold Ops at h'
  obtain ⟨n, e', H', hr, k⟩ := h'
  obtain ⟨sn, hd⟩ := drun_of_ops (n0 := H.next) hp hc.2 (by simp : [H].length = 0 + 1) hw hr
  unfold DW
  exact ⟨n, e', H', sn, hd, k⟩

/-! ## out of this, and into it -/
theorem Cl.callsA {f : FuncId} {args : List AV} {H : Heap} {K : AV → Heap → Prop} (hp : PrimsRl prims) (hw : Wf H) (h : Cl P prims f args H K) : CallsA P prims f args H K := h hp hw
theorem Cl.of {f : FuncId} {args : List AV} {H : Heap} {K : AV → Heap → Prop} (h : CallsA P prims f args H K) : Cl P prims f args H K := fun _ _ => h

end
attribute [irreducible] Cl Wq Oq Thenq Roundq
end Go.Abs

/- Regions that draw their order, where a look at memory may come ahead of a write or behind it: walked step by step, with the memories that there were. -/
namespace Go.Abs
set_option linter.unusedVariables false
set_option linter.unusedSimpArgs false

section
variable {P : Program} {prims : Prims} {N : Nat}

/-- Each step with a mark: no look there could tell (0), or it has to be shown of so many of the last memories. -/
def marksOk (P : Program) (ops : Array Oper) : List (Nat × Nat) → Nat → Bool
  | [], _ => true
  | (i, m) :: is, k => match ops[i]? with
    | some o => if isHeavy P o.op then marksOk P ops is (k + 1) else (blind P o.op || decide (k ≤ loOf P ops i) || (decide (0 < m) && decide (k + 1 - loOf P ops i ≤ m))) && marksOk P ops is k
    | none => false

def Dq (P : Program) (prims : Prims) (N : Nat) (ops : Array Oper) (n0 : Nat) (is : List (Nat × Nat)) (e : Nat → AV) (H : Heap) (snaps : List Heap) (K : (Nat → AV) → Heap → Prop) : Prop :=
  PrimsRl prims → Wf H → ∀ k, snaps.length = k + 1 → marksOk P ops is k = true →
    ∃ n e' H' sn, drun P (acall P prims n) ops (befores ops) (heavies P ops.toList 0) n0 (is.map (·.1)) { T := tab N e, H := H, snaps := snaps } = some { T := tab N e', H := H', snaps := sn } ∧ K e' H'

section
variable {ops : Array Oper} {n0 i : Nat} {m : Nat} {is : List (Nat × Nat)} {e : Nat → AV} {H H' : Heap} {snaps : List Heap} {K : (Nat → AV) → Heap → Prop} {d : Option Tmp} {op : Op} {g : Option (Nat × Bool)} {v : AV}

theorem Dq.nil (h : K e H) : Dq P prims N ops n0 [] e H snaps K := fun _ _ _ _ _ => ⟨0, e, H, snaps, rfl, h⟩

theorem drun_cons {b : Array Nat} {hv : List Nat} {n1 n2 : Nat} {e1 e2 : Nat → AV} {H1 H2 : Heap} {sn1 sn2 : List Heap} {js : List Nat}
    (hs : dstep P (acall P prims n1) ops b hv n0 i { T := tab N e, H := H, snaps := snaps } = some { T := tab N e1, H := H1, snaps := sn1 })
    (hr : drun P (acall P prims n2) ops b hv n0 js { T := tab N e1, H := H1, snaps := sn1 } = some { T := tab N e2, H := H2, snaps := sn2 }) :
    drun P (acall P prims (max n1 n2)) ops b hv n0 (i :: js) { T := tab N e, H := H, snaps := snaps } = some { T := tab N e2, H := H2, snaps := sn2 } := by
  unfold drun
  rw [dstep_le (acall_le (Nat.le_max_left n1 n2)) hs]
  exact drun_le (acall_le (Nat.le_max_right n1 n2)) hr

/-- What a look has to show: its block is as it was in the last memories. -/
def Still (H : Heap) (snaps : List Heap) (m : Nat) (b : Nat) : Prop := ∃ o, H.get b = some o ∧ ∀ S ∈ snaps.take m, S.get b = some o

theorem Dq.light {o : Oper} (h1 : ops[i]? = some o) (hh : isHeavy P o.op = false) (hw : wantedA ops (tab N e) o = true) (hr : opR P N e o.op H = some (v, H'))
    (hm : m = 0 ∨ ∀ bs k, sem P noCall (tab N e) o.op = some (.read bs k) → ∀ b ∈ bs, Still H snaps m b)
    (h : Dq P prims N ops n0 is (setEO e o.dst v) H' snaps K) : Dq P prims N ops n0 ((i, m) :: is) e H snaps K := by
  intro hp hwf k hs hc
  unfold marksOk at hc
  simp only [h1, hh, Bool.false_eq_true, if_false, Bool.and_eq_true, Bool.or_eq_true] at hc
  have hm' : snaps.length - loOf P ops i ≤ 1 ∨ ∀ bs k, sem P noCall (tab N e) o.op = some (.read bs k) → ∀ b ∈ bs, Calm H n0 snaps (snaps.length - loOf P ops i) b := by
    rcases hc.1 with (h2 | h2) | h2
    · right; intro bs k hsem; exact absurd hsem (blind_ok h2)
    · left; have := of_decide_eq_true h2; omega
    · have h21 := of_decide_eq_true h2.1
      have h22 := of_decide_eq_true h2.2
      rcases hm with hm | hm
      · omega
      · right
        intro bs k hsem b hb
        obtain ⟨o', g2, g3⟩ := hm bs k hsem b hb
        refine ⟨o', g2, fun S hS => g3 S ?_⟩
        rw [show m = (snaps.length - loOf P ops i) + (m - (snaps.length - loOf P ops i)) from by omega, List.take_add]
        exact List.mem_append_left _ hS
  obtain ⟨x, hl, hpush⟩ := light_of_opR (call := acall P prims 0) (noCall_le _) hh hw hwf hr hm'
  have hwf' : Wf H' := by
    have := (runOp_rl (call := noCall) (fun f args H v H' h => by cases h) (runOp_opR hr)).2 hwf
    exact this
  obtain ⟨n, e', H2, sn, hd, kk⟩ := h hp hwf' k hs hc.2
  refine ⟨max 0 n, e', H2, sn, drun_cons (n1 := 0) (e1 := setEO e o.dst v) (H1 := H') (sn1 := snaps) ?_ hd, kk⟩
  unfold dstep
  simp only [h1, hh, Bool.false_eq_true, if_false, hl, put_tab, hpush]

theorem Dq.heavyG {o : Oper} (h1 : ops[i]? = some o) (hh : isHeavy P o.op = true) (hw : wantedA ops (tab N e) o = true) (hr : PrimsRl prims → Wf H → OpR P prims N o e H fun v H' => Dq P prims N ops n0 is (setEO e o.dst v) H' (H' :: snaps) K) :
    Dq P prims N ops n0 ((i, m) :: is) e H snaps K := by
  intro hp hwf k hs hc
  unfold marksOk at hc
  simp only [h1, hh, if_true] at hc
  have hr' := hr hp hwf
  unfold OpR at hr'
  obtain ⟨n1, v, H', hr', hk⟩ := hr'
  obtain ⟨n, e', H2, sn, hd, kk⟩ := hk hp ((runOp_rl (acall_rl hp n1) hr').2 hwf) (k + 1) (by simp [hs]) hc
  refine ⟨max n1 n, e', H2, sn, drun_cons (n1 := n1) (e1 := setEO e o.dst v) (H1 := H') (sn1 := H' :: snaps) ?_ hd, kk⟩
  unfold dstep
  simp only [h1, hh, if_true, hw, hr', put_tab]

theorem Dq.skipL {o : Oper} (h1 : ops[i]? = some o) (hh : isHeavy P o.op = false) (hw : wantedA ops (tab N e) o = false) (h : Dq P prims N ops n0 is (setEO e o.dst .undef) H snaps K) : Dq P prims N ops n0 ((i, m) :: is) e H snaps K := by
  intro hp hwf k hs hc
  unfold marksOk at hc
  simp only [h1, hh, Bool.false_eq_true, if_false, Bool.and_eq_true] at hc
  obtain ⟨n, e', H2, sn, hd, kk⟩ := h hp hwf k hs hc.2
  refine ⟨max 0 n, e', H2, sn, drun_cons (n1 := 0) (e1 := setEO e o.dst .undef) (H1 := H) (sn1 := snaps) ?_ hd, kk⟩
  unfold dstep lightRes
  simp only [h1, hh, Bool.false_eq_true, if_false, hw, put_tab, pushO]

theorem Dq.skipH {o : Oper} (h1 : ops[i]? = some o) (hh : isHeavy P o.op = true) (hw : wantedA ops (tab N e) o = false) (h : Dq P prims N ops n0 is (setEO e o.dst .undef) H (H :: snaps) K) : Dq P prims N ops n0 ((i, m) :: is) e H snaps K := by
  intro hp hwf k hs hc
  unfold marksOk at hc
  simp only [h1, hh, if_true] at hc
  obtain ⟨n, e', H2, sn, hd, kk⟩ := h hp hwf (k + 1) (by simp [hs]) hc
  refine ⟨max 0 n, e', H2, sn, drun_cons (n1 := 0) (e1 := setEO e o.dst .undef) (H1 := H) (sn1 := H :: snaps) ?_ hd, kk⟩
  unfold dstep
  simp only [h1, hh, if_true, hw, Bool.false_eq_true, if_false, put_tab]

/-! ## the steps: guards none, met, unmet -/
section
variable {t : TypeId} {pos : String} {after : Array Edge}
theorem Met.w {o : Oper} (h : Met ops e N o.guard) : wantedA ops (tab N e) o = true := h.wanted
theorem met_none : Met ops e N none := trivial
theorem met_some {j : Nat} {want : Bool} {d' : Tmp} (hj : yDst ops j = some d') (hN : d' < N) (hb : e d' = .bool want) : Met ops e N (some (j, want)) := ⟨d', hj, hN, hb⟩
theorem unmet_some {j : Nat} {want : Bool} {d' : Tmp} (hj : yDst ops j = some d') (hN : d' < N) (hb : e d' = .bool !want) : Unmet ops e N (some (j, want)) := ⟨d', hj, hN, hb⟩

/-- A light step that is marked. -/
theorem Dq.o1 {d : Tmp} (ho : ops[i]? = some ⟨some d, op, t, pos, after, g⟩) (hh : isHeavy P op = false) (hg : Met ops e N g) (hr : opR P N e op H = some (v, H'))
    (h : Dq P prims N ops n0 is (setE e d v) H' snaps K) : Dq P prims N ops n0 ((i, 0) :: is) e H snaps K :=
  Dq.light ho hh (Met.w (o := ⟨some d, op, t, pos, after, g⟩) hg) hr (.inl rfl) h
/-- A load that is not. -/
theorem Dq.load {d : Tmp} {u : TypeId} {x : Operand} {b o : Nat} (ho : ops[i]? = some ⟨some d, .load u x, t, pos, after, g⟩) (hg : Met ops e N g) (hx : ev P (tab N e) x = some (.ptr (some (b, o)))) (hs : Still H snaps (m + 1) b) (hr : opR P N e (.load u x) H = some (v, H'))
    (h : Dq P prims N ops n0 is (setE e d v) H' snaps K) : Dq P prims N ops n0 ((i, m + 1) :: is) e H snaps K := by
  refine Dq.light ho rfl (Met.w (o := ⟨some d, .load u x, t, pos, after, g⟩) hg) hr (.inr fun bs k hsem => ?_) h
  simp only [sem, hx] at hsem
  split at hsem
  · rename_i e1 _ _
    simp only [Option.some.injEq, AV.ptr.injEq, Prod.mk.injEq] at e1
    simp only [Option.some.injEq, Sm.read.injEq] at hsem
    intro b' hb'
    rw [← hsem.1] at hb'
    simp at hb'
    subst hb'
    rw [← e1.1]; exact hs
  · cases hsem
/-- A text out of bytes, not marked. -/
theorem Dq.conv {d : Tmp} {s u : TypeId} {x : Operand} {a : Option (Nat × Nat)} {n c : Nat} {ex : Option Nat} (ho : ops[i]? = some ⟨some d, .convert s u x, t, pos, after, g⟩) (hh : isHeavy P (.convert s u x) = false) (hg : Met ops e N g) (hx : ev P (tab N e) x = some (.slice a n c ex)) (hs : ∀ b o, a = some (b, o) → Still H snaps (m + 1) b)
    (hr : opR P N e (.convert s u x) H = some (v, H'))
    (h : Dq P prims N ops n0 is (setE e d v) H' snaps K) : Dq P prims N ops n0 ((i, m + 1) :: is) e H snaps K := by
  refine Dq.light ho hh (Met.w (o := ⟨some d, .convert s u x, t, pos, after, g⟩) hg) hr (.inr fun bs k hsem => ?_) h
  simp only [sem, hx, convSem] at hsem
  intro b' hb'
  split at hsem <;> first | (cases hsem; done) | skip
  all_goals (try (rename_i h3 h4; simp at h4))
  all_goals (try (split at hsem <;> first | (cases hsem; done) | (simp at hsem; done) | skip))
  all_goals (try (split at hsem <;> first | (cases hsem; done) | (simp at hsem; done) | skip))
  all_goals (
    simp only [Option.some.injEq, Sm.read.injEq] at hsem
    rw [← hsem.1] at hb'
    simp at hb'
    subst hb'
    first | exact hs _ _ (by assumption) | exact hs _ _ h4.1)
/-- A write. -/
theorem Dq.h1 {d : Tmp} (ho : ops[i]? = some ⟨some d, op, t, pos, after, g⟩) (hh : isHeavy P op = true) (hg : Met ops e N g) (hr : opR P N e op H = some (v, H'))
    (h : Dq P prims N ops n0 is (setE e d v) H' (H' :: snaps) K) : Dq P prims N ops n0 ((i, m) :: is) e H snaps K :=
  Dq.heavyG ho hh (Met.w (o := ⟨some d, op, t, pos, after, g⟩) hg) fun _ _ => OpR.mk (runOp_opR hr) h
theorem Dq.h0 (ho : ops[i]? = some ⟨none, op, t, pos, after, g⟩) (hh : isHeavy P op = true) (hg : Met ops e N g) (hr : opR P N e op H = some (v, H'))
    (h : Dq P prims N ops n0 is e H' (H' :: snaps) K) : Dq P prims N ops n0 ((i, m) :: is) e H snaps K :=
  Dq.heavyG ho hh (Met.w (o := ⟨none, op, t, pos, after, g⟩) hg) fun _ _ => OpR.mk (runOp_opR hr) h
theorem Dq.call {d : Tmp} {x : Operand} {xs : Array Operand} {ts : Array TypeId} {f : FuncId} {first captured args all : List AV}
    (ho : ops[i]? = some ⟨some d, .call { callee := .value x, args := xs, argTypes := ts }, t, pos, after, g⟩) (hg : Met ops e N g)
    (hf : ev P (tab N e) x = some (.func (.func f) first captured)) (ha : mapOpt (ev P (tab N e)) xs.toList = some args) (hall : first ++ args ++ captured = all)
    (h : Cl P prims f all H fun v H' => Dq P prims N ops n0 is (setE e d v) H' (H' :: snaps) K) : Dq P prims N ops n0 ((i, m) :: is) e H snaps K :=
  Dq.heavyG ho rfl (Met.w (o := ⟨some d, .call { callee := .value x, args := xs, argTypes := ts }, t, pos, after, g⟩) hg) fun hp hw => OpR.callv hf ha hall (by unfold Cl at h; exact h hp hw)
theorem Dq.append {d : Tmp} {xs : Array Operand} {ts : Array TypeId} {w x : AV} {n q u t1 bytes s : Nat} {z cs new : List AV}
    (ho : ops[i]? = some ⟨some d, .call { callee := .builtin .append, args := xs, argTypes := ts }, t, pos, after, g⟩) (hg : Met ops e N g)
    (ha : mapOpt (ev P (tab N e)) xs.toList = some [w, x]) (ht : ∃ t0, ts[0]? = some t0 ∧ elemF P t0 = some (u, bytes, s, z)) (ht1 : ts[1]? = some t1) (hu1 : (P.underlying t1).isSome = true) (hc : isCount P (some t1) = false)
    (own : OwnSl H u s w n cs) (hx : srcLen x = some q ∧ srcCells H s q x = some new) (hl : new.length = q * s) (hone : new.all AV.one = true) (hb : (n + q) * bytes ≤ 2 ^ 46) (hn : n + q ≤ 2 ^ 46)
    (h : ∀ v' H', OwnSl H' u s v' (n + q) (cs ++ new) → ButOne (slBlock w) H H' → (slBlock v' = slBlock w ∨ slBlock v' = some H.next) → Dq P prims N ops n0 is (setE e d v') H' (H' :: snaps) K) :
    Dq P prims N ops n0 ((i, m) :: is) e H snaps K := by
  refine Dq.heavyG ho rfl (Met.w (o := ⟨some d, .call { callee := .builtin .append, args := xs, argTypes := ts }, t, pos, after, g⟩) hg) fun hp hw => ?_
  obtain ⟨t0, h0, hF⟩ := ht
  obtain ⟨base, ex, rfl⟩ : ∃ base ex, w = .slice base n n ex := by
    rcases own with ⟨rfl, rfl, _⟩ | ⟨b, sl, rfl, _⟩
    · exact ⟨none, none, rfl⟩
    · exact ⟨_, _, rfl⟩
  unfold elemF at hF
  split at hF
  · rename_i u' hu
    split at hF
    · rename_i b' s' z' g1 g2 g3
      split at hF
      · rename_i hz
        injection hF with hF
        simp only [Prod.mk.injEq] at hF
        obtain ⟨rfl, rfl, rfl, rfl⟩ := hF
        obtain ⟨d1, hd1⟩ := Option.isSome_iff_exists.1 hu1
        obtain ⟨v', H', r, o, bo, hbk⟩ := appendA_own own hl hone hb hn
        refine OpR.mk (v := v') (H' := H') (runOp_opR ?_) (h v' H' o bo hbk)
        rw [opR_builtin, ha, append_eq h0 hu g2 g1 g3 hz (by rw [ht1]; exact hc) ht1 hd1 hx.1 hx.2 hl]
        exact r
      · cases hF
    · cases hF
  · cases hF
/-- A step whose guard is unmet. -/
theorem Dq.sl {d : Tmp} (ho : ops[i]? = some ⟨some d, op, t, pos, after, g⟩) (hh : isHeavy P op = false) (hg : Unmet ops e N g) (h : Dq P prims N ops n0 is (setE e d .undef) H snaps K) : Dq P prims N ops n0 ((i, m) :: is) e H snaps K :=
  Dq.skipL ho hh (Unmet.unwanted (o := ⟨some d, op, t, pos, after, g⟩) hg) h
theorem Dq.sh {d : Tmp} (ho : ops[i]? = some ⟨some d, op, t, pos, after, g⟩) (hh : isHeavy P op = true) (hg : Unmet ops e N g) (h : Dq P prims N ops n0 is (setE e d .undef) H (H :: snaps) K) : Dq P prims N ops n0 ((i, m) :: is) e H snaps K :=
  Dq.skipH ho hh (Unmet.unwanted (o := ⟨some d, op, t, pos, after, g⟩) hg) h
theorem Dq.sh0 (ho : ops[i]? = some ⟨none, op, t, pos, after, g⟩) (hh : isHeavy P op = true) (hg : Unmet ops e N g) (h : Dq P prims N ops n0 is e H (H :: snaps) K) : Dq P prims N ops n0 ((i, m) :: is) e H snaps K :=
  Dq.skipH ho hh (Unmet.unwanted (o := ⟨none, op, t, pos, after, g⟩) hg) h
end
end

/-- The order is the one in which it is run; the marks are right. -/
def dMarks (P : Program) (ops : Array Oper) (c : List (Nat × Nat)) : Bool := dOk P ops (c.map (·.1)) && marksOk P ops c 0
theorem Wq.regionM {id : Nat} {ops : Array Oper} {e : Nat → AV} {H : Heap} {Q : Post} (c : List (Nat × Nat)) (hc : dMarks P ops c = true) (h : Dq P prims N ops H.next c e H [H] (Q .normal)) : Wq P prims N (.region id ops true) e H Q := by
  unfold Wq
  intro hp hw
  unfold dMarks at hc
  rw [Bool.and_eq_true] at hc
  refine Wp.regionD (c.map (·.1)) hc.1 ?_
  obtain ⟨n, e', H', sn, hr, k⟩ := h hp hw 0 rfl hc.2
  unfold DW
  exact ⟨n, e', H', sn, hr, k⟩
end
attribute [irreducible] Dq
end Go.Abs

/- The rules by which a walk rewrites, marked. -/
namespace Go.Abs
set_option linter.unusedVariables false
theorem argEnv_zero (a : AV) (l : List AV) : argEnv (a :: l) 0 = a := rfl
theorem argEnv_succ (a : AV) (l : List AV) (n : Nat) : argEnv (a :: l) (n + 1) = argEnv l n := rfl
theorem argEnv_nil (n : Nat) : argEnv [] n = .undef := rfl
attribute [simp] argEnv_zero argEnv_succ argEnv_nil ev_tmp' ev_const ev_func evOpt_none evOpt_some ofConst ofBasic setE_eq resultsA tab_at opR_move opR_assign mvR_some opR_pick pickR_eq opR_bin binR_add binR_sub binR_mul binR_quo' binR_rem' binR_and binR_or binR_xor binR_andNot binR_eql binR_neq binR_lss binR_leq binR_gtr binR_geq
  binR_streql binR_strneq binR_strlss binR_strgtr binR_stradd' binR_beql' binR_bneq' binR_ptrn binR_ptrnn binR_sln binR_slnn binR_shl' binR_shr unR_neg unR_xor
  opR_un unR_not opR_extract extractR_eq opR_nilCheck nilCheckR_eq opR_fieldAddr fieldAddrR_eq opR_load loadR_ptr opR_store storeR_ptr opR_box boxR_some opR_build buildR_eq opR_buildSlice buildSliceR_eq
  opR_indexAddr indexAddrR_slice indexAddrR_array opR_builtin len_slice' len_str' len_mapnil' len_map' len_arr min_two' max_two' mapOpt evParts firstT buildA buildSliceA fillA fieldPlaces zeros AV.cells writeAt Sm.run readVar writeCells Heap.get_push Heap.get_set AV.one
  opR_conv convR_int convR_str convR_bytes convR_bytesnil cellsOfBytes_len zeroB_len opR_slice slcS_l slcS_h slcS_lh slcA_l slcA_h slcA_lh slcA_0 opR_index indexR_str indexR_arr opR_field fieldR_agg partA_eq
  opR_makeMap opR_makeSlice opR_makeFunc makeFuncR_some opR_lookup lookupR_int lookI_one lookI_two opR_mapUpdate updateR_int updI_eq deleteR_int imap_len copyR_eq iget_pm idel_pm pm_len ptrTo_getD srcLen bnd
theorem ptrTo_eq (b : Nat) : ptrTo b = .ptr (some (b, 0)) := rfl
theorem iset_ptr (n : Int) (b : Nat) (l : List (Int × Nat)) : iset n (.ptr (some (b, 0))) (pm ptrTo l) = pm ptrTo (iset n b l) := iset_pm ptrTo n b l
attribute [simp] List.getElem?_cons_zero List.getElem?_cons_succ List.getD_cons_zero List.getD_cons_succ
attribute [simp] ptrTo_eq iset_ptr
/-- An allocation of a type whose zero is known. -/
theorem opR_alloc' {P : Program} {N : Nat} {e : Nat → AV} {H : Heap} (t : TypeId) : opR P N e (.alloc t) H = match tzero P t with | some z => some (.ptr (some (H.next, 0)), H.push (.cells z.cells t true false)) | none => none := by
  cases h : tzero P t with
  | none => simp only [opR_eq, sem, h]; rfl
  | some z => exact opR_alloc t h
attribute [simp] opR_alloc'
end Go.Abs

/- The walking kit, fifth part: whole blocks written, pieces copied and cleared. -/
namespace Go.Abs
set_option linter.unusedVariables false
set_option linter.unusedSimpArgs false

theorem writeAt_eq : ∀ (vs c : List AV) (o : Nat), o + vs.length ≤ c.length → writeAt c o vs = c.take o ++ (vs ++ c.drop (o + vs.length))
  | [], c, o, h => by simp [writeAt]
  | v :: vs, c, o, h => by
    simp only [List.length_cons] at h
    simp only [writeAt]
    rw [writeAt_eq vs (c.set o v) (o + 1) (by simp; omega)]
    rw [List.take_set, List.drop_set]
    rw [if_pos (by omega)]
    have e1 : (c.take (o + 1)).set o v = c.take o ++ [v] := by
      rw [List.take_add_one]
      rw [List.getElem?_eq_getElem (by omega)]
      rw [List.set_append_right _ _ (by simp; omega)]
      simp [Nat.min_eq_left (by omega : o ≤ c.length)]
    rw [e1]
    simp [Nat.add_comm, Nat.add_left_comm]
theorem writeAt_full {vs c : List AV} (h : c.length = vs.length) : writeAt c 0 vs = vs := by
  rw [writeAt_eq vs c 0 (by omega)]
  simp [List.drop_eq_nil_of_le (by omega : c.length ≤ vs.length)]
theorem writeCells_eq {H : Heap} {b o : Nat} {vs c : List AV} {u : TypeId} {mk : Bool} (hb : H.get b = some (.cells c u true mk)) (h : o + vs.length ≤ c.length) (h0 : 0 < vs.length) (hone : vs.all AV.one = true) :
    writeCells H b o vs = some (H.set b (.cells (c.take o ++ (vs ++ c.drop (o + vs.length))) u true mk)) := by
  cases vs with
  | nil => simp at h0
  | cons v vs =>
    simp only [writeCells, hb]
    rw [if_pos (by rw [Bool.and_eq_true]; exact ⟨by simpa using h, hone⟩), writeAt_eq _ _ _ h]
theorem Upd.get {H H' : Heap} (h : Upd nobody H H') {b : Nat} (hb : b < H.next) : H'.get b = H.get b := h.keep b hb id
theorem Sl.src' {H : Heap} {s n : Nat} {v : AV} {cs : List AV} (h : Sl H s v n cs) : srcLen v = some n ∧ srcCells H s n v = some cs := ⟨h.src.2, h.src.1⟩
theorem getD_appL {α : Type} {l m : List α} {i : Nat} {d : α} (h : i < l.length) : (l ++ m).getD i d = l.getD i d := by simp [List.getD, List.getElem?_append_left h]
theorem getD_appR {α : Type} {l m : List α} {i : Nat} {d : α} (h : l.length ≤ i) : (l ++ m).getD i d = m.getD (i - l.length) d := by simp [List.getD, List.getElem?_append_right h]
theorem writeCells_nil {H : Heap} {b o : Nat} : writeCells H b o [] = some H := rfl

section
variable {P : Program} {prims : Prims} {N : Nat} {ops : Array Oper} {d : Tmp} {t t0 : TypeId} {pos : String} {after : Array Edge} {os : List Oper} {e : Nat → AV} {H H' : Heap} {K : (Nat → AV) → Heap → Prop} {v : AV}
/-- The memory forgotten but for what is said of it. -/
theorem Wq.gen {c : Code} {Q : Post} (I : Heap → Prop) (h : I H) (k : ∀ H, I H → Wq P prims N c e H Q) : Wq P prims N c e H Q := k H h
theorem Oq.gen (I : Heap → Prop) (h : I H) (k : ∀ H, I H → Oq P prims N ops os e H K) : Oq P prims N ops os e H K := k H h
/-- A whole block written. -/
theorem Oq.storeFull {x y : Operand} {b : Nat} {vs c : List AV} {el : TypeId} {mk : Bool} (hx : ev P (tab N e) x = some (.ptr (some (b, 0)))) (hy : ev P (tab N e) y = some (.agg vs)) (hb : H.get b = some (.cells c el true mk)) (hl : c.length = vs.length) (h0 : 0 < vs.length) (hone : vs.all AV.one = true)
    (ht : tsz P t0 = some vs.length) (h : Oq P prims N ops os e (H.set b (.cells vs el true mk)) K) : Oq P prims N ops ({ dst := none, op := .store t0 x y, type := t, pos := pos, after := after, guard := none } :: os) e H K := by
  refine Oq.o0 (v := .undef) (H' := H.set b (.cells vs el true mk)) ?_ h
  rw [opR_store, hx, hy, storeR_ptr]
  simp only [AV.cells, ht, if_true]
  rw [writeCells_eq hb (by omega) h0 hone]
  simp [List.drop_eq_nil_of_le (by omega : c.length ≤ vs.length)]
/-- A copy between blocks of bytes (elements of one cell). -/
theorem Oq.copy {xs : Array Operand} {ts : Array TypeId} {b o dl c : Nat} {ex : Option Nat} {b2 o2 ml c2 : Nat} {ex2 : Option Nat} {cd cs : List AV} {u u2 : TypeId} {mk w2 m2 : Bool} {t1 : TypeId} (k : Nat)
    (ha : mapOpt (ev P (tab N e)) xs.toList = some [.slice (some (b, o)) dl c ex, .slice (some (b2, o2)) ml c2 ex2]) (ht : ts[0]? = some t1) (hs : elemS P t1 = some 1) (hk : min ml dl = k) (h0 : 0 < k)
    (hb : H.get b = some (.cells cd u true mk)) (hb2 : H.get b2 = some (.cells cs u2 w2 m2)) (h1 : o + k ≤ cd.length) (h2 : o2 + k ≤ cs.length) (hone : ((cs.drop o2).take k).all AV.one = true)
    (h : Oq P prims N ops os (setE e d (.int .i64 k)) (H.set b (.cells (cd.take o ++ ((cs.drop o2).take k ++ cd.drop (o + k))) u true mk)) K) :
    Oq P prims N ops ({ dst := some d, op := .call { callee := .builtin .copy, args := xs, argTypes := ts }, type := t, pos := pos, after := after, guard := none } :: os) e H K := by
  refine Oq.o1 (H' := H.set b (.cells (cd.take o ++ ((cs.drop o2).take k ++ cd.drop (o + k))) u true mk)) ?_ h
  rw [opR_builtin, ha, copyR_eq]
  have hk' : Nat.min ml dl = k := hk
  have hl : ((cs.drop o2).take k).length = k := by simp; omega
  simp only [ht, hs, srcLen, hk']
  have hsrc : srcCells H 1 k (.slice (some (b2, o2)) ml c2 ex2) = some ((cs.drop o2).take k) := by
    simp only [srcCells, Nat.mul_one, cellsAt, hb2]
    rw [if_neg (by omega), if_pos (by have := Nat.min_le_left ml dl; omega), if_pos h2]
  simp only [hsrc, hl, Nat.mul_one, ne_eq, not_true, if_false]
  rw [writeCells_eq hb (by rw [hl]; exact h1) (by rw [hl]; exact h0) hone, hl]
theorem zeros_one (v : AV) : ∀ n, zeros [v] n = List.replicate n v
  | 0 => rfl
  | n + 1 => by simp [zeros, zeros_one v n, List.replicate_succ]
theorem zeros_bytes (n : Nat) : zeros [.int .u8 0] n = cellsOfBytes (zeroB n) := by
  rw [zeros_one]
  simp [cellsOfBytes, zeroB]
/-- A piece of a block cleared (elements of one cell). -/
theorem Oq.clear {xs : Array Operand} {ts : Array TypeId} {b o k c : Nat} {ex : Option Nat} {cd : List AV} {u u1 : TypeId} {mk : Bool} {bytes : Nat} {z : AV}
    (ha : mapOpt (ev P (tab N e)) xs.toList = some [.slice (some (b, o)) k c ex]) (ht : ∃ t1, ts[0]? = some t1 ∧ elemF P t1 = some (u1, bytes, 1, [z])) (h0 : 0 < k)
    (hb : H.get b = some (.cells cd u true mk)) (h1 : o + k ≤ cd.length) (hone : z.one = true)
    (h : Oq P prims N ops os e (H.set b (.cells (cd.take o ++ (List.replicate k z ++ cd.drop (o + k))) u true mk)) K) :
    Oq P prims N ops ({ dst := none, op := .call { callee := .builtin .clear, args := xs, argTypes := ts }, type := t, pos := pos, after := after, guard := none } :: os) e H K := by
  obtain ⟨t1, ht, hF⟩ := ht
  refine Oq.o0 (v := .undef) (H' := H.set b (.cells (cd.take o ++ (List.replicate k z ++ cd.drop (o + k))) u true mk)) ?_ h
  rw [opR_builtin, ha, builtinR_eq]
  unfold elemF at hF
  split at hF
  · rename_i u' hu
    split at hF
    · rename_i b' s' z' g1 g2 g3
      split at hF
      · rename_i hz
        injection hF with hF
        simp only [Prod.mk.injEq] at hF
        obtain ⟨rfl, rfl, rfl, hzz⟩ := hF
        simp only [builtinSem, clearSem, ht, hu]
        rw [if_neg (by omega)]
        have hw := writeCells_eq (o := o) (vs := List.replicate k z) hb (by simpa using h1) (by simpa using h0) (by rw [List.all_eq_true]; intro x hx; rw [(List.mem_replicate.1 hx).2]; exact hone)
        simp only [List.length_replicate] at hw
        simp only [g2, g3, hzz, zeros_one, List.length_singleton, ne_eq, not_true, if_false, hw, Sm.run]
      · cases hF
    · cases hF
  · cases hF
end
end Go.Abs

/- Arguments that come in, told as slices and lists. -/
namespace Go.Abs
set_option linter.unusedVariables false

/-- A text out of a slice of bytes. -/
theorem conv_sl {P : Program} {H : Heap} {s t : TypeId} {v : AV} {bs : List UInt8} (h1 : bytesT P s = true) (h2 : isStrT P t = true) (h : Sl H 1 v bs.length (cellsOfBytes bs)) (hv : ∀ b o n c x, v = .slice (some (b, o)) n c x → b < H.next ∧ ∃ cs t w m, H.get b = some (.cells cs t w m) ∧ o + n ≤ cs.length) : convR P s t (some v) H = some (.str bs, H) := by
  unfold Sl at h
  obtain ⟨hl, h⟩ := h
  rcases h with ⟨rfl, h0⟩ | ⟨b, o, cap, ex, rfl, hc, hx, h⟩
  · rw [convR_bytesnil]
    simp only [h1, h2, Bool.and_self, if_true]
    have : bs = [] := List.eq_nil_of_length_eq_zero h0
    rw [this]
  · rw [convR_bytes]
    simp only [h1, h2, Bool.and_self, if_true]
    by_cases h0 : 0 < bs.length
    · obtain ⟨_, c, t', w, m, q2, q3, q4⟩ := h h0
      rw [Nat.mul_one] at q3 q4
      simp only [q2]
      rw [if_pos q3, q4, bytesOfCells_of]
    · obtain ⟨_, c, t', w, m, q2, q3⟩ := hv b o _ cap ex rfl
      have h00 : bs.length = 0 := by omega
      have hbs : bs = [] := List.eq_nil_of_length_eq_zero h00
      subst hbs
      simp only [q2]
      rw [if_pos q3]
      simp [bytesOfCells]
theorem list_of {α : Type} {p : Nat → α → Prop} : ∀ {n : Nat}, (∀ i, i < n → ∃ x, p i x) → ∃ l : List α, l.length = n ∧ ∀ i x, l[i]? = some x → p i x
  | 0, _ => ⟨[], rfl, fun i x h => by simp at h⟩
  | n + 1, h => by
    obtain ⟨l, hl, hp⟩ := list_of (n := n) fun i hi => h i (by omega)
    obtain ⟨x, hx⟩ := h n (by omega)
    refine ⟨l ++ [x], by simp [hl], fun i y hy => ?_⟩
    by_cases hi : i < l.length
    · rw [List.getElem?_append_left hi] at hy; exact hp i y hy
    · rw [List.getElem?_append_right (by omega)] at hy
      have : i - l.length = 0 := by
        by_cases e : i - l.length = 0
        · exact e
        · rw [List.getElem?_eq_none (by simp; omega)] at hy; cases hy
      rw [this] at hy
      simp at hy
      subst hy
      rw [show i = n from by omega]
      exact hx

theorem pic_slice {P : Program} {H : Heap} {n : Nat} {t e s : Nat} {v : AV} (hu : P.underlying t = some (.slice e)) (hs : P.cellsOf e = s) (h : Pic P H (n + 1) t [v]) :
    ∃ len c, Sl H s v len c ∧ len ≤ maxLen ∧ (∀ b, slBlock v = some b → b < H.next) ∧ ∀ i, i < len → Pic P H n e ((c.drop (i * s)).take s) := by
  unfold Pic at h
  simp only [hu, hs] at h
  rcases h with h | ⟨b, len, c, h1, h2, h3, h4, h5, h6⟩
  · simp at h
    subst h
    exact ⟨0, [], Sl.nil, by unfold maxLen; omega, by simp [slBlock], fun i hi => by omega⟩
  · simp at h1
    subst h1
    refine ⟨len, c, ?_, h3, by simp [slBlock]; omega, h6⟩
    unfold Sl
    exact ⟨h4, .inr ⟨b, 0, len, some s, rfl, Nat.le_refl _, .inr rfl, fun h0 => ⟨h2, c, e, false, false, h5 h0, by omega, by rw [List.drop_zero, List.take_of_length_le (by omega)]⟩⟩⟩

theorem pic_int {P : Program} {H : Heap} {n t : Nat} {k : IntKind} {cs : List AV} (hu : P.underlying t = some (.int k)) (h : Pic P H (n + 1) t cs) : ∃ z, cs = [.int k z] ∧ (Lit.int k z).wf = true := by
  unfold Pic at h
  simpa only [hu] using h
theorem pic_bool {P : Program} {H : Heap} {n t : Nat} {cs : List AV} (hu : P.underlying t = some .bool) (h : Pic P H (n + 1) t cs) : ∃ z, cs = [.bool z] := by
  unfold Pic at h
  simpa only [hu] using h
theorem pic_str {P : Program} {H : Heap} {n t : Nat} {cs : List AV} (hu : P.underlying t = some .string) (h : Pic P H (n + 1) t cs) : ∃ z, cs = [.str z] ∧ z.length ≤ maxLen := by
  unfold Pic at h
  simpa only [hu] using h
theorem i64_wf {z : Int} (h : (Lit.int .i64 z).wf = true) : -9223372036854775808 ≤ z ∧ z ≤ 9223372036854775807 := by
  simp [Lit.wf, IntKind.min, IntKind.max, IntKind.signed, IntKind.bits] at h
  omega
theorem u8_wf {z : Int} (h : (Lit.int .u8 z).wf = true) : 0 ≤ z ∧ z ≤ 255 := by
  simp [Lit.wf, IntKind.min, IntKind.max, IntKind.signed, IntKind.bits] at h
  omega

theorem cells_of_u8 : ∀ (n : Nat) (c : List AV), c.length = n → (∀ i, i < n → ∃ z, (c.drop i).take 1 = [.int .u8 z] ∧ 0 ≤ z ∧ z ≤ 255) → ∃ bs, bs.length = n ∧ c = cellsOfBytes bs
  | 0, c, hl, _ => ⟨[], rfl, by rw [List.eq_nil_of_length_eq_zero hl]; rfl⟩
  | n + 1, c, hl, h => by
    cases c with
    | nil => simp at hl
    | cons x c =>
      obtain ⟨bs, h1, h2⟩ := cells_of_u8 n c (by simpa using hl) fun i hi => by
        have := h (i + 1) (by omega)
        simpa using this
      obtain ⟨z, hz, h3, h4⟩ := h 0 (by omega)
      simp at hz
      refine ⟨UInt8.ofNat z.toNat :: bs, by simp [h1], ?_⟩
      have e : cellsOfBytes (UInt8.ofNat z.toNat :: bs) = .int .u8 (UInt8.ofNat z.toNat).toNat :: cellsOfBytes bs := rfl
      rw [e, hz, h2]
      congr 2
      have : (UInt8.ofNat z.toNat).toNat = z.toNat := by rw [UInt8.toNat_ofNat']; exact Nat.mod_eq_of_lt (by omega)
      rw [this]
      omega

theorem pic_bytes {P : Program} {H : Heap} {n t e : Nat} {v : AV} (hu : P.underlying t = some (.slice e)) (hs : P.cellsOf e = 1) (he : P.underlying e = some (.int .u8)) (h : Pic P H (n + 2) t [v]) :
    ∃ bs, Sl H 1 v bs.length (cellsOfBytes bs) ∧ bs.length ≤ maxLen ∧ (∀ b, slBlock v = some b → b < H.next) := by
  obtain ⟨len, c, h1, h2, h3, h4⟩ := pic_slice hu hs h
  obtain ⟨bs, h5, h6⟩ := cells_of_u8 len c (by have := h1.len; omega) fun i hi => by
    have := h4 i hi
    rw [Nat.mul_one] at this
    obtain ⟨z, hz, hw⟩ := pic_int he this
    exact ⟨z, hz, u8_wf hw⟩
  exact ⟨bs, by rw [h5, ← h6]; exact h1, by omega, h3⟩
end Go.Abs

/- What every row of a law wants, whatever the seat. -/
namespace Go.Abs
set_option linter.unusedVariables false

theorem closedPrims_rl (l : List (FuncId × AV)) : PrimsRl (closedPrims l) := by
  intro f g hf args H v H' hg
  unfold closedPrims at hf
  split at hf
  · injection hf with hf
    subst hf
    simp only [] at hg
    split at hg
    · injection hg with hg; injection hg with _ hg; subst hg; exact Rl.refl _
    · cases hg
  · cases hf

/-- Are they alike (plain values only). -/
def sameAV : AV → AV → Bool
  | .bool a, .bool b => a == b
  | .int k a, .int l b => decide (k = l) && a == b
  | .str a, .str b => a == b
  | _, _ => false
theorem sameAV_ok {a b : AV} (h : sameAV a b = true) : a = b := by
  cases a <;> cases b <;> simp [sameAV] at h <;> simp [h]
theorem runs_of {P : Program} {n f : Nat} {H : Heap} {v : AV} (h : ((acall P noPrims n f [] H).map fun r => sameAV r.1 v) = some true) : ∃ n H', acall P noPrims n f [] H = some (v, H') := by
  cases hr : acall P noPrims n f [] H with
  | none => rw [hr] at h; simp at h
  | some r =>
    rw [hr] at h
    obtain ⟨u, H'⟩ := r
    simp at h
    rw [sameAV_ok h] at hr
    exact ⟨n, H', hr⟩

theorem picV_one {P : Program} {H : Heap} {n t : Nat} {a : AV} {k : IntKind} (hu : P.underlying t = some (.int k)) (h : PicV P H (n + 1) t a) : ∃ z, a = .int k z ∧ (Lit.int k z).wf = true := by
  unfold PicV at h
  simp only [hu] at h
  obtain ⟨z, e, w⟩ := pic_int hu h
  simp at e
  exact ⟨z, e, w⟩
theorem picV_i64 {P : Program} {H : Heap} {n t : Nat} {a : AV} (hu : P.underlying t = some (.int .i64)) (h : PicV P H (n + 1) t a) : ∃ z, a = .int .i64 z ∧ -9223372036854775808 ≤ z ∧ z ≤ 9223372036854775807 := by
  obtain ⟨z, e, w⟩ := picV_one hu h
  exact ⟨z, e, i64_wf w⟩
theorem picV_u8 {P : Program} {H : Heap} {n t : Nat} {a : AV} (hu : P.underlying t = some (.int .u8)) (h : PicV P H (n + 1) t a) : ∃ z, a = .int .u8 z ∧ 0 ≤ z ∧ z ≤ 255 := by
  obtain ⟨z, e, w⟩ := picV_one hu h
  exact ⟨z, e, u8_wf w⟩
theorem picV_bool {P : Program} {H : Heap} {n t : Nat} {a : AV} (hu : P.underlying t = some .bool) (h : PicV P H (n + 1) t a) : ∃ z, a = .bool z := by
  unfold PicV at h
  simp only [hu] at h
  obtain ⟨z, e⟩ := pic_bool hu h
  simp at e
  exact ⟨z, e⟩
theorem picV_str {P : Program} {H : Heap} {n t : Nat} {a : AV} (hu : P.underlying t = some .string) (h : PicV P H (n + 1) t a) : ∃ z, a = .str z ∧ z.length ≤ maxLen := by
  unfold PicV at h
  simp only [hu] at h
  obtain ⟨z, e, w⟩ := pic_str hu h
  simp at e
  exact ⟨z, e, w⟩
theorem picV_slice {P : Program} {H : Heap} {n t e : Nat} {a : AV} (hu : P.underlying t = some (.slice e)) (h : PicV P H n t a) : Pic P H n t [a] := by
  unfold PicV at h
  simpa only [hu] using h
end Go.Abs

/- Functions of Go's library without a body: the model's stand-ins, that leave the memory alone. -/
namespace Go.Abs
set_option linter.unusedVariables false

/-- Functions told by a function over values: the memory stays. -/
def extPrims (l : List (FuncId × (List AV → Option AV))) : Prims := fun f => match l.find? fun p => p.1 == f with
  | some p => some fun args H => match p.2 args with
    | some v => some (v, H)
    | none => none
  | none => none
/-- A stand-in says what a function over values says. -/
def ExtSays (P : Program) (f : FuncId) (g : List AV → Option AV) : Prop :=
  ∃ fn e, P.funcs[f]? = some fn ∧ (fn.name == "runtime.NumGoroutine") = false ∧ fn.body.isNone = true ∧ Extern.findNext fn = none ∧ Extern.find fn = some e ∧
    ∀ (args : List AV) (v : AV), g args = some v → ∀ (ρ : Map) (us : Array Value) (w : World), VRels ρ args us.toList → ∃ u, (e us).run P w = .ok u w ∧ VRel ρ v u

theorem extPrims_ok {P : Program} {l : List (FuncId × (List AV → Option AV))} (h : ∀ p ∈ l, ExtSays P p.1 p.2) : PrimsOk P (extPrims l) := by
  refine ⟨?_, ?_, ?_⟩
  · intro f g hf args H v H' hg
    unfold extPrims at hf
    split at hf
    · injection hf with hf
      subst hf
      simp only [] at hg
      split at hg
      · injection hg with hg; injection hg with _ hg; subst hg; exact Nat.le_refl _
      · cases hg
    · cases hf
  · intro f g hf args H v H' hg ρ w us hs hwf hfree hargs
    unfold extPrims at hf
    split at hf
    · rename_i p hp
      injection hf with hf
      subst hf
      simp only [] at hg
      split at hg
      · rename_i v' hv
        injection hg with hg; injection hg with h1 h2; subst h1; subst h2
        have hmem := List.mem_of_find?_eq_some hp
        have hpf : p.1 = f := by simpa using List.find?_some hp
        obtain ⟨fn, e, hfn, hname, hb, hn, he, hsay⟩ := h p hmem
        rw [hpf] at hfn
        obtain ⟨u, hrun, hvr⟩ := hsay args v' hv ρ us w hargs
        refine does_value (ρ' := ρ) (w' := w) (u := u) ?_ ?_ hvr
        · rw [run_callFunc_extern hfn hname hb hn he, hrun]; rfl
        · exact
          { sim := hs
            ext := Ext.refl ρ
            out := fun _ _ => rfl
            next := Nat.le_refl _
            dom := fun _ h _ => h
            ro := fun _ _ h _ _ => h
            keeps := { size := Nat.le_refl _, kept := fun B o hB _ => hB, owns := fun B h => .inr h, tape := rfl, os := rfl, output := rfl } }
      · cases hg
    · cases hf
  · refine seqPrims_of fun f g hf => ?_
    unfold extPrims at hf
    split at hf
    · rename_i p hp
      have hpf : p.1 = f := by simpa using List.find?_some hp
      obtain ⟨fn, hx⟩ := h p (List.mem_of_find?_eq_some hp)
      exact ⟨fn, by rw [← hpf]; exact hx.choose_spec.1⟩
    · cases hf
theorem extPrims_rl (l : List (FuncId × (List AV → Option AV))) : PrimsRl (extPrims l) := by
  intro f g hf args H v H' hg
  unfold extPrims at hf
  split at hf
  · injection hf with hf
    subst hf
    simp only [] at hg
    split at hg
    · injection hg with hg; injection hg with _ hg; subst hg; exact Rl.refl _
    · cases hg
  · cases hf

def orPrims (p q : Prims) : Prims := fun f => match p f with
  | some g => some g
  | none => q f
theorem orPrims_ok {P : Program} {p q : Prims} (hp : PrimsOk P p) (hq : PrimsOk P q) : PrimsOk P (orPrims p q) := by
  refine ⟨?_, ?_, ?_⟩
  · intro f g hf
    unfold orPrims at hf
    split at hf
    · rename_i g' h'
      injection hf with hf; subst hf
      exact hp.1 f _ h'
    · exact hq.1 f g hf
  · intro f g hf
    unfold orPrims at hf
    split at hf
    · rename_i g' h'
      injection hf with hf; subst hf
      exact hp.2.1 f _ h'
    · exact hq.2.1 f g hf
  · intro gf g hf
    unfold orPrims at hf
    split at hf
    · rename_i g' h'
      injection hf with hf; subst hf
      exact hp.2.2 gf _ h'
    · exact hq.2.2 gf g hf
theorem orPrims_rl {p q : Prims} (hp : PrimsRl p) (hq : PrimsRl q) : PrimsRl (orPrims p q) := by
  intro f g hf
  unfold orPrims at hf
  split at hf
  · rename_i g' h'
    injection hf with hf; subst hf
    exact hp f _ h'
  · exact hq f g hf

/-- Closed calls, evaluated beside functions that are told by hand. -/
theorem closedPrims_on {P : Program} (hm : P.follows .mixedOrders = true) (hn : plainNames P = true) {base : Prims} (hb : PrimsOk P base) {l : List (FuncId × AV)}
    (h : ∀ p ∈ l, plainAV p.2 = true ∧ ∃ n H', acall P base n p.1 [] (Heap.start P.globals.size) = some (p.2, H')) : PrimsOk P (closedPrims l) := by
  refine ⟨?_, ?_, ?_⟩
  · intro f g hf args H v H' hg
    unfold closedPrims at hf
    split at hf
    · injection hf with hf
      subst hf
      simp only [] at hg
      split at hg
      · injection hg with hg; injection hg with _ hg; subst hg; exact Nat.le_refl _
      · cases hg
    · cases hf
  · intro f g hf args H v H' hg ρ w us hs hwf hfree hargs
    unfold closedPrims at hf
    split at hf
    · rename_i p hp
      injection hf with hf
      subst hf
      simp only [] at hg
      split at hg
      · rename_i he
        injection hg with hg; injection hg with h1 h2; subst h1; subst h2
        have hargs' : args = [] := by simpa using he
        subst hargs'
        have hmem := List.mem_of_find?_eq_some hp
        have hpf : p.1 = f := by simpa using List.find?_some hp
        obtain ⟨hpl, n, H', hrun⟩ := h p hmem
        rw [hpf] at hrun
        have hstart : Sim P.globals.size (fun g => if g < P.globals.size then some ⟨g, 0, 0⟩ else none) (Heap.start P.globals.size) w :=
          { obj := fun b o h => (by cases h), apart := fun b b' o o' p p' h => (by cases h), glob := fun g hg => ⟨⟨g, 0, 0⟩, by simp [hg], rfl, rfl⟩ }
        have hd := acall_ok hb hm hn n f [] _ _ _ hrun _ w us hstart (fun b _ => rfl) (fun b hb _ => by have : P.globals.size ≤ b := hb; simp; omega) hargs
        refine Delivers.mono' hd fun u w' ⟨ρ', hg, hv⟩ => ⟨ρ, ?_, VRel.plain hpl hv⟩
        have kept : ∀ (B : Nat) (o : Obj), w.heap[B]? = some o → w'.heap[B]? = some o := fun B o hB => hg.keeps.kept B o hB (by rintro ⟨b, o', p, h1, _⟩; cases h1)
        exact
          { sim := { obj := fun b o hb => (hs.obj b o hb).grow (Ext.refl ρ) kept, apart := hs.apart, glob := hs.glob }
            ext := Ext.refl ρ
            out := fun _ _ => rfl
            next := Nat.le_refl _
            dom := fun _ h _ => h
            ro := fun _ _ h _ _ => h
            keeps := { size := hg.keeps.size, kept := fun B o hB _ => kept B o hB, owns := fun B h => .inr h, tape := hg.keeps.tape, os := hg.keeps.os, output := hg.keeps.output } }
      · cases hg
    · cases hf
  · intro gf g hf lb H xs H1 hg
    unfold closedPrims at hf
    split at hf
    · injection hf with hf
      subst hf
      simp at hg
    · cases hf
end Go.Abs

/- Functions told by contracts of the model's own calls (the kit's shelf): the memory that was there stays. -/
namespace Go.Abs
set_option linter.unusedVariables false

/-- What was there is there. -/
structure KeptW (w w' : World) : Prop where
  size : w.heap.size ≤ w'.heap.size
  kept : ∀ (B : Nat) (o : Obj), w.heap[B]? = some o → w'.heap[B]? = some o
  tape : w'.tape = w.tape
  os : w'.os = w.os
  output : w'.output = w.output
theorem KeptW.rfl {w : World} : KeptW w w := ⟨Nat.le_refl _, fun _ _ h => h, _root_.rfl, _root_.rfl, _root_.rfl⟩
/-- A function of the program says what a function over values says. -/
def BodySays (P : Program) (f : FuncId) (g : List AV → Option AV) : Prop :=
  ∃ fn, P.funcs[f]? = some fn ∧ (fn.name == "runtime.NumGoroutine") = false ∧ fn.body.isNone = false ∧
    ∀ (args : List AV) (v : AV), g args = some v → ∀ (ρ : Map) (us : Array Value) (w : World), VRels ρ args us.toList → Calls P f us w fun e w' => ∃ u, e = .returned u ∧ VRel ρ v u ∧ KeptW w w'
theorem run_callFunc_enter {P : Program} {f : FuncId} {fn : Func} (hf : P.funcs[f]? = some fn) (hname : (fn.name == "runtime.NumGoroutine") = false) (hb : fn.body.isNone = false) (args : Array Value) (w : World) :
    (callFunc f args).run P w = .ok (.enter f args) w := by
  have h1 : fn.name ≠ "runtime.NumGoroutine" := by simpa using hname
  have h2 : fn.body ≠ none := fun e => by rw [e] at hb; cases hb
  simp [callFunc, hf, h1, h2]
theorem bodyPrims_ok {P : Program} {l : List (FuncId × (List AV → Option AV))} (h : ∀ p ∈ l, BodySays P p.1 p.2) : PrimsOk P (extPrims l) := by
  refine ⟨?_, ?_, ?_⟩
  · intro f g hf args H v H' hg
    unfold extPrims at hf
    split at hf
    · injection hf with hf
      subst hf
      simp only [] at hg
      split at hg
      · injection hg with hg; injection hg with _ hg; subst hg; exact Nat.le_refl _
      · cases hg
    · cases hf
  · intro f g hf args H v H' hg ρ w us hs hwf hfree hargs
    unfold extPrims at hf
    split at hf
    · rename_i p hp
      injection hf with hf
      subst hf
      simp only [] at hg
      split at hg
      · rename_i v' hv
        injection hg with hg; injection hg with h1 h2; subst h1; subst h2
        have hmem := List.mem_of_find?_eq_some hp
        have hpf : p.1 = f := by simpa using List.find?_some hp
        obtain ⟨fn, hfn, hname, hb, hsay⟩ := h p hmem
        rw [hpf] at hfn hsay
        have hc := hsay args v' hv ρ us w hargs
        unfold Does Delivers
        rw [run_callFunc_enter hfn hname hb]
        refine hc.mono fun e w' ⟨u, he, hvr, hk⟩ => ⟨u, he, ρ, ?_, hvr⟩
        exact
          { sim := { obj := fun b o hb => (hs.obj b o hb).grow (Ext.refl ρ) hk.kept, apart := hs.apart, glob := hs.glob }
            ext := Ext.refl ρ
            out := fun _ _ => rfl
            next := Nat.le_refl _
            dom := fun _ h _ => h
            ro := fun _ _ h _ _ => h
            keeps := { size := hk.size, kept := fun B o hB _ => hk.kept B o hB, owns := fun B h => .inr h, tape := hk.tape, os := hk.os, output := hk.output } }
      · cases hg
    · cases hf
  · refine seqPrims_of fun f g hf => ?_
    unfold extPrims at hf
    split at hf
    · rename_i p hp
      have hpf : p.1 = f := by simpa using List.find?_some hp
      obtain ⟨fn, hx⟩ := h p (List.mem_of_find?_eq_some hp)
      exact ⟨fn, by rw [← hpf]; exact hx.1⟩
    · cases hf
end Go.Abs

/- Rows of laws whose functions lean on functions told by hand. -/
namespace Go.Abs
set_option linter.unusedVariables false
theorem runs_on {P : Program} {base : Prims} {n f : Nat} {H : Heap} {v : AV} (h : ((acall P base n f [] H).map fun r => sameAV r.1 v) = some true) : ∃ n H', acall P base n f [] H = some (v, H') := by
  cases hr : acall P base n f [] H with
  | none => rw [hr] at h; simp at h
  | some r =>
    rw [hr] at h
    obtain ⟨u, H'⟩ := r
    simp at h
    rw [sameAV_ok h] at hr
    exact ⟨n, H', hr⟩
end Go.Abs
