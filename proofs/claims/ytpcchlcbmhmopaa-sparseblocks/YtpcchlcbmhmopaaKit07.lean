/- Texts on the abstract machine, joined. -/
import Derived.Test.YtpcchlcbmhmopaaKit06
import Derived.Test.YtpcchlcbmhmopaaKit02

/- Rules for maps, slicing, conversions, copying. -/
namespace Go.Abs
set_option linter.unusedVariables false

section
variable {P : Program} {N : Nat} {e : Nat → AV} {H : Heap}

/-! maps -/
def keyT (P : Program) (t : TypeId) : Option (TypeId × TypeId) := match P.underlying t with | some (.map k u) => some (k, u) | _ => none

def lookupR (P : Program) (t : TypeId) (ok : Bool) : Option AV → Option AV → Heap → Option (AV × Heap)
  | some a, some b, H => match lookupSem P t a b ok with
    | some s => s.run H
    | none => none
  | _, _, _ => none
theorem opR_lookup (t : TypeId) (x y : Operand) (ok : Bool) : opR P N e (.lookup t x y ok) H = lookupR P t ok (ev P (tab N e) x) (ev P (tab N e) y) H := by
  simp only [opR_eq, sem]
  cases ev P (tab N e) x with
  | none => cases ev P (tab N e) y <;> rfl
  | some a => cases ev P (tab N e) y <;> rfl

instance : DecidableEq AV := fun a b => if h : AV.beq a b = true then isTrue (AV.eq_of_beq _ _ h) else isFalse (fun e => h (e ▸ AV.beq_refl a))

/-- A map's entry. -/
def getA (k : AV) : List (AV × AV) → Option AV
  | [] => none
  | (x, v) :: r => if x = k then some v else getA k r

/-- The place of a key. -/
def idxA (k : AV) : List (AV × AV) → Nat → Option Nat
  | [], _ => none
  | (x, _) :: r, i => if x = k then some i else idxA k r (i + 1)

/-- All keys are of one plain kind. -/
def intKeys (k : IntKind) (es : List (AV × AV)) : Prop := ∀ p ∈ es, ∃ n, p.1 = .int k n
def strKeys (es : List (AV × AV)) : Prop := ∀ p ∈ es, ∃ s, p.1 = .str s

theorem findA_int {k : IntKind} {n : Int} : ∀ {es : List (AV × AV)} {i : Nat}, intKeys k es → findA (.int k n) es i = some (match idxA (.int k n) es i with | some j => (getA (.int k n) es).map fun v => (j, v) | none => none)
  | [], i, _ => rfl
  | (x, v) :: r, i, h => by
    obtain ⟨m, hm⟩ := h (x, v) (by simp)
    simp only [] at hm
    subst hm
    have ih := findA_int (n := n) (es := r) (i := i + 1) (fun p hp => h p (by simp [hp]))
    by_cases e : m = n
    · subst e
      simp [findA, keyEq, idxA, getA]
    · have e1 : ¬ (AV.int k m = AV.int k n) := by intro h; injection h with _ h; exact e h
      have e2 : (n == m) = false := by simp; exact fun h => e h.symm
      simp only [findA, keyEq, if_true, e2, idxA, getA, if_neg e1]
      exact ih

theorem findA_str {n : List UInt8} : ∀ {es : List (AV × AV)} {i : Nat}, strKeys es → findA (.str n) es i = some (match idxA (.str n) es i with | some j => (getA (.str n) es).map fun v => (j, v) | none => none)
  | [], i, _ => rfl
  | (x, v) :: r, i, h => by
    obtain ⟨m, hm⟩ := h (x, v) (by simp)
    simp only [] at hm
    subst hm
    have ih := findA_str (n := n) (es := r) (i := i + 1) (fun p hp => h p (by simp [hp]))
    by_cases e : m = n
    · subst e
      simp [findA, keyEq, idxA, getA]
    · have e1 : ¬ (AV.str m = AV.str n) := by intro h; injection h with h; exact e h
      have e2 : (n == m) = false := by simp; exact fun h => e h.symm
      simp only [findA, keyEq, e2, idxA, getA, if_neg e1]
      exact ih

theorem idxA_none {k : AV} : ∀ {es : List (AV × AV)} {i : Nat}, idxA k es i = none ↔ getA k es = none
  | [], i => by simp [idxA, getA]
  | (x, v) :: r, i => by
    by_cases e : x = k
    · simp [idxA, getA, e]
    · simp only [idxA, getA, if_neg e]
      exact idxA_none

theorem idxA_some {k : AV} : ∀ {es : List (AV × AV)} {i j : Nat}, idxA k es i = some j → i ≤ j ∧ ∃ v, es[j - i]? = some (k, v) ∧ getA k es = some v
  | [], i, j, h => by simp [idxA] at h
  | (x, v) :: r, i, j, h => by
    by_cases e : x = k
    · subst e
      simp [idxA] at h
      subst h
      exact ⟨Nat.le_refl _, v, by simp, by simp [getA]⟩
    · simp only [idxA, if_neg e] at h
      obtain ⟨h1, u, h2, h3⟩ := idxA_some h
      refine ⟨by omega, u, ?_, by simp only [getA, if_neg e]; exact h3⟩
      have : j - i = (j - (i + 1)) + 1 := by omega
      rw [this]
      simpa using h2

/-- What a map says, entry by entry. -/
def setA (k v : AV) : List (AV × AV) → List (AV × AV)
  | [] => [(k, v)]
  | (x, u) :: r => if x = k then (k, v) :: r else (x, u) :: setA k v r

def delA (k : AV) : List (AV × AV) → List (AV × AV)
  | [] => []
  | (x, u) :: r => if x = k then r else (x, u) :: delA k r

theorem setA_none {k v : AV} : ∀ {es : List (AV × AV)}, getA k es = none → setA k v es = es ++ [(k, v)]
  | [], _ => rfl
  | (x, u) :: r, h => by
    by_cases e : x = k
    · simp [getA, e] at h
    · simp only [getA, if_neg e] at h
      simp only [setA, if_neg e, List.cons_append]
      rw [setA_none h]

theorem setA_some {k v : AV} : ∀ {es : List (AV × AV)} {i j : Nat}, idxA k es i = some j → setA k v es = es.set (j - i) (k, v)
  | [], i, j, h => by simp [idxA] at h
  | (x, u) :: r, i, j, h => by
    by_cases e : x = k
    · simp [idxA, e] at h
      subst h
      simp [setA, e]
    · simp only [idxA, if_neg e] at h
      have := (idxA_some h).1
      have e2 : j - i = (j - (i + 1)) + 1 := by omega
      rw [e2]
      simp only [setA, if_neg e, List.set_cons_succ]
      rw [setA_some h]

theorem delA_none {k : AV} : ∀ {es : List (AV × AV)}, getA k es = none → delA k es = es
  | [], _ => rfl
  | (x, u) :: r, h => by
    by_cases e : x = k
    · simp [getA, e] at h
    · simp only [getA, if_neg e] at h
      simp only [delA, if_neg e]
      rw [delA_none h]

theorem delA_some {k : AV} : ∀ {es : List (AV × AV)} {i j : Nat}, idxA k es i = some j → delA k es = es.eraseIdx (j - i)
  | [], i, j, h => by simp [idxA] at h
  | (x, u) :: r, i, j, h => by
    by_cases e : x = k
    · simp [idxA, e] at h
      subst h
      simp [delA, e]
    · simp only [idxA, if_neg e] at h
      have := (idxA_some h).1
      have e2 : j - i = (j - (i + 1)) + 1 := by omega
      rw [e2]
      simp only [delA, if_neg e, List.eraseIdx_cons_succ]
      rw [delA_some h]

theorem getA_setA {k v x : AV} : ∀ {es : List (AV × AV)}, getA x (setA k v es) = if k = x then some v else getA x es
  | [] => by simp [setA, getA]
  | (y, u) :: r => by
    by_cases e : y = k
    · subst e
      by_cases e2 : y = x
      · simp [setA, getA, e2]
      · simp [setA, getA, e2]
    · simp only [setA, if_neg e, getA]
      rw [getA_setA]
      by_cases e2 : y = x
      · subst e2
        rw [if_pos rfl, if_neg (fun h => e h.symm), if_pos rfl]
      · rw [if_neg e2, if_neg e2]

/-- No key stands twice. -/
def keysOnce : List (AV × AV) → Prop
  | [] => True
  | (x, _) :: r => getA x r = none ∧ keysOnce r

theorem getA_delA {k x : AV} : ∀ {es : List (AV × AV)}, keysOnce es → getA x (delA k es) = if k = x then none else getA x es
  | [], _ => by simp [delA, getA]
  | (y, u) :: r, h => by
    by_cases e : y = k
    · subst e
      simp only [delA, if_true, getA]
      by_cases e2 : y = x
      · subst e2; simp [h.1]
      · simp [e2]
    · simp only [delA, if_neg e, getA]
      rw [getA_delA h.2]
      by_cases e2 : y = x
      · subst e2
        rw [if_pos rfl, if_neg (fun h => e h.symm), if_pos rfl]
      · rw [if_neg e2, if_neg e2]

theorem keysOnce_setA {k v : AV} : ∀ {es : List (AV × AV)}, keysOnce es → keysOnce (setA k v es)
  | [], _ => by simp [setA, keysOnce, getA]
  | (y, u) :: r, h => by
    by_cases e : y = k
    · subst e
      simp only [setA, if_true, keysOnce]
      exact h
    · simp only [setA, if_neg e, keysOnce]
      refine ⟨?_, keysOnce_setA h.2⟩
      rw [getA_setA, if_neg (fun h => e h.symm)]
      exact h.1

theorem keysOnce_delA {k : AV} : ∀ {es : List (AV × AV)}, keysOnce es → keysOnce (delA k es)
  | [], _ => trivial
  | (y, u) :: r, h => by
    by_cases e : y = k
    · simp only [delA, if_pos e]
      exact h.2
    · simp only [delA, if_neg e, keysOnce]
      refine ⟨?_, keysOnce_delA h.2⟩
      rw [getA_delA h.2]
      split
      · rfl
      · exact h.1

theorem length_setA {k v : AV} : ∀ {es : List (AV × AV)}, (setA k v es).length = if getA k es = none then es.length + 1 else es.length
  | [] => rfl
  | (y, u) :: r => by
    by_cases e : y = k
    · simp [setA, getA, e]
    · simp only [setA, if_neg e, getA, List.length_cons]
      rw [length_setA]
      split <;> rfl

theorem length_delA {k : AV} : ∀ {es : List (AV × AV)}, (delA k es).length = if getA k es = none then es.length else es.length - 1
  | [] => rfl
  | (y, u) :: r => by
    by_cases e : y = k
    · simp [delA, getA, e]
    · simp only [delA, if_neg e, getA, List.length_cons]
      rw [length_delA]
      cases h : getA k r with
      | none => simp
      | some v =>
        simp
        cases r with
        | nil => simp [getA] at h
        | cons _ _ => simp

theorem mem_setA {k v : AV} {p : AV × AV} : ∀ {es : List (AV × AV)}, p ∈ setA k v es → p = (k, v) ∨ p ∈ es
  | [], h => by simp [setA] at h; exact .inl h
  | (y, u) :: r, h => by
    by_cases e : y = k
    · simp only [setA, if_pos e, List.mem_cons] at h ⊢
      rcases h with h | h
      · exact .inl h
      · exact .inr (.inr h)
    · simp only [setA, if_neg e, List.mem_cons] at h ⊢
      rcases h with h | h
      · exact .inr (.inl h)
      · rcases mem_setA h with h | h
        · exact .inl h
        · exact .inr (.inr h)

theorem mem_delA {k : AV} {p : AV × AV} : ∀ {es : List (AV × AV)}, p ∈ delA k es → p ∈ es
  | [], h => h
  | (y, u) :: r, h => by
    by_cases e : y = k
    · simp only [delA, if_pos e] at h
      exact List.mem_cons_of_mem _ h
    · simp only [delA, if_neg e, List.mem_cons] at h ⊢
      rcases h with h | h
      · exact .inl h
      · exact .inr (mem_delA h)

theorem findA_int' {k : IntKind} {n : Int} {es : List (AV × AV)} (h : intKeys k es) :
    (getA (.int k n) es = none ∧ findA (.int k n) es 0 = some none) ∨ ∃ j v, getA (.int k n) es = some v ∧ findA (.int k n) es 0 = some (some (j, v)) ∧ idxA (.int k n) es 0 = some j := by
  rw [findA_int h]
  cases hi : idxA (.int k n) es 0 with
  | none => exact .inl ⟨idxA_none.1 hi, rfl⟩
  | some j =>
    obtain ⟨_, v, _, hv⟩ := idxA_some hi
    exact .inr ⟨j, v, hv, by simp [hv], rfl⟩

theorem findA_str' {n : List UInt8} {es : List (AV × AV)} (h : strKeys es) :
    (getA (.str n) es = none ∧ findA (.str n) es 0 = some none) ∨ ∃ j v, getA (.str n) es = some v ∧ findA (.str n) es 0 = some (some (j, v)) ∧ idxA (.str n) es 0 = some j := by
  rw [findA_str h]
  cases hi : idxA (.str n) es 0 with
  | none => exact .inl ⟨idxA_none.1 hi, rfl⟩
  | some j =>
    obtain ⟨_, v, _, hv⟩ := idxA_some hi
    exact .inr ⟨j, v, hv, by simp [hv], rfl⟩

/-- A map whose keys are of the kind of a key. -/
def keysLike (k : AV) (es : List (AV × AV)) : Prop := (∃ i n, k = .int i n ∧ intKeys i es) ∨ (∃ s, k = .str s ∧ strKeys es)

theorem findA_like {k : AV} {es : List (AV × AV)} (h : keysLike k es) :
    (getA k es = none ∧ findA k es 0 = some none) ∨ ∃ j v, getA k es = some v ∧ findA k es 0 = some (some (j, v)) ∧ idxA k es 0 = some j := by
  rcases h with ⟨i, n, rfl, h⟩ | ⟨s, rfl, h⟩
  · exact findA_int' h
  · exact findA_str' h

theorem lookup_one {t kt et : TypeId} {z k : AV} {r : Nat} {es : List (AV × AV)} (hu : keyT P t = some (kt, et)) (hk : keyFits P kt k = true) (hz : tzero P et = some z) (hr : H.get r = some (.map es)) (hl : keysLike k es) :
    lookupR P t false (some (.map (some r))) (some k) H = some ((getA k es).getD z, H) := by
  unfold keyT at hu
  split at hu
  · rename_i hd
    injection hu with hu; injection hu with h1 h2; subst h1; subst h2
    simp only [lookupR, lookupSem, hd, hk, if_true, hz, Sm.run, mapOpt, hr]
    rcases findA_like hl with ⟨h1, h2⟩ | ⟨j, v, h1, h2, _⟩
    · simp [h1, h2]
    · simp [h1, h2]
  · cases hu

theorem lookup_two {t kt et : TypeId} {z k : AV} {r : Nat} {es : List (AV × AV)} (hu : keyT P t = some (kt, et)) (hk : keyFits P kt k = true) (hz : tzero P et = some z) (hr : H.get r = some (.map es)) (hl : keysLike k es) :
    lookupR P t true (some (.map (some r))) (some k) H = some (.tuple [(getA k es).getD z, .bool (getA k es).isSome], H) := by
  unfold keyT at hu
  split at hu
  · rename_i hd
    injection hu with hu; injection hu with h1 h2; subst h1; subst h2
    simp only [lookupR, lookupSem, hd, hk, if_true, hz, Sm.run, mapOpt, hr]
    rcases findA_like hl with ⟨h1, h2⟩ | ⟨j, v, h1, h2, _⟩
    · simp [h1, h2]
    · simp [h1, h2]
  · cases hu

def updateR (P : Program) (t : TypeId) : Option AV → Option AV → Option AV → Heap → Option (AV × Heap)
  | some m, some k, some v, H => match updateSem P t m k v with
    | some s => s.run H
    | none => none
  | _, _, _, _ => none
theorem opR_mapUpdate (t : TypeId) (x y z : Operand) : opR P N e (.mapUpdate t x y z) H = updateR P t (ev P (tab N e) x) (ev P (tab N e) y) (ev P (tab N e) z) H := by
  simp only [opR_eq, sem]
  cases ev P (tab N e) x with
  | none => cases ev P (tab N e) y <;> cases ev P (tab N e) z <;> rfl
  | some a => cases ev P (tab N e) y with
    | none => cases ev P (tab N e) z <;> rfl
    | some b => cases ev P (tab N e) z <;> rfl
theorem opR_insert (t : TypeId) (x y z : Operand) : opR P N e (.insert t x y z) H = updateR P t (ev P (tab N e) x) (ev P (tab N e) y) (ev P (tab N e) z) H := by
  simp only [opR_eq, sem]
  cases ev P (tab N e) x with
  | none => cases ev P (tab N e) y <;> cases ev P (tab N e) z <;> rfl
  | some a => cases ev P (tab N e) y with
    | none => cases ev P (tab N e) z <;> rfl
    | some b => cases ev P (tab N e) z <;> rfl

theorem update_one {t kt et : TypeId} {k v : AV} {r : Nat} {es : List (AV × AV)} (hu : keyT P t = some (kt, et)) (hk : keyFits P kt k = true) (hr : H.get r = some (.map es)) (hl : keysLike k es) :
    updateR P t (some (.map (some r))) (some k) (some v) H = some (.undef, H.set r (.map (setA k v es))) := by
  unfold keyT at hu
  split at hu
  · rename_i hd
    injection hu with hu; injection hu with h1 h2; subst h1; subst h2
    simp only [updateR, updateSem, hd, hk, if_true, Sm.run, hr]
    rcases findA_like hl with ⟨h1, h2⟩ | ⟨j, u, h1, h2, h3⟩
    · simp only [h2, setA_none h1]
    · have := setA_some (v := v) h3
      simp only [Nat.sub_zero] at this
      simp only [h2, this, mapSet]
  · cases hu

theorem delete_one {ts : Array TypeId} {t kt et : TypeId} {k : AV} {r : Nat} {es : List (AV × AV)} (ht : ts[0]? = some t) (hu : keyT P t = some (kt, et)) (hk : keyFits P kt k = true) (hr : H.get r = some (.map es)) (hl : keysLike k es)
    (hsame : getA k es = none → H.set r (.map es) = H) :
    builtinR P .delete ts (some [.map (some r), k]) H = some (.undef, H.set r (.map (delA k es))) := by
  unfold keyT at hu
  split at hu
  · rename_i hd
    injection hu with hu; injection hu with h1 h2; subst h1; subst h2
    rw [builtinR_eq]
    simp only [builtinSem, deleteSem, ht, hd, hk, if_true, Sm.run, hr]
    rcases findA_like hl with ⟨h1, h2⟩ | ⟨j, u, h1, h2, h3⟩
    · simp only [h2, delA_none h1, hsame h1]
    · have := delA_some h3
      simp only [Nat.sub_zero] at this
      simp only [h2, this]
  · cases hu

end
end Go.Abs

/- The walking kit: rules that rewrite without side conditions, numbers without wraps, slices that are read, what a piece of code leaves alone. -/
namespace Go.Abs
set_option linter.unusedVariables false
set_option linter.unusedSimpArgs false

/-! ## numbers -/
theorem wrapI64 {a : Int} (h : -9223372036854775808 ≤ a ∧ a ≤ 9223372036854775807) : IntKind.i64.wrap a = a := by
  unfold IntKind.wrap
  dsimp only
  split <;> rename_i h1 <;> simp [IntKind.bits, IntKind.signed] at h1 ⊢ <;> omega
theorem wrapU8 {a : Int} (h : 0 ≤ a ∧ a ≤ 255) : IntKind.u8.wrap a = a := by
  unfold IntKind.wrap
  dsimp only
  split <;> rename_i h1 <;> simp [IntKind.bits, IntKind.signed] at h1 ⊢ <;> omega
theorem wrapU32 {a : Int} (h : 0 ≤ a ∧ a ≤ 4294967295) : IntKind.u32.wrap a = a := by
  unfold IntKind.wrap
  dsimp only
  split <;> rename_i h1 <;> simp [IntKind.bits, IntKind.signed] at h1 ⊢ <;> omega
theorem wrapU64 {a : Int} (h : 0 ≤ a ∧ a ≤ 18446744073709551615) : IntKind.u64.wrap a = a := by
  unfold IntKind.wrap
  dsimp only
  split <;> rename_i h1 <;> simp [IntKind.bits, IntKind.signed] at h1 ⊢ <;> omega
theorem wrapU64_big {a : Int} (h : 18446744073709551616 ≤ a ∧ a < 36893488147419103232) : IntKind.u64.wrap a = a - 18446744073709551616 := by
  unfold IntKind.wrap
  dsimp only
  split <;> rename_i h1 <;> simp [IntKind.bits, IntKind.signed] at h1 ⊢ <;> omega
theorem tdivN {a b : Int} (h : 0 ≤ a) : a.tdiv b = a / b := Int.tdiv_eq_ediv_of_nonneg h
theorem tmodN {a b : Int} (h : 0 ≤ a) : a.tmod b = a % b := Int.tmod_eq_emod_of_nonneg h
theorem ipos {α : Sort _} {c : Prop} [Decidable c] {a b : α} (h : c) : (if c then a else b) = a := if_pos h
theorem ineg {α : Sort _} {c : Prop} [Decidable c] {a b : α} (h : ¬ c) : (if c then a else b) = b := if_neg h
theorem dpos {c : Prop} [Decidable c] (h : c) : decide c = true := decide_eq_true h
theorem dneg {c : Prop} [Decidable c] (h : ¬ c) : decide c = false := decide_eq_false h

section
variable {P : Program} {N : Nat} {e : Nat → AV} {H : Heap}

/-! ## operands -/
theorem ev_tmp' (i : Nat) : ev P (tab N e) (.tmp i) = some (if i < N then e i else .undef) := by
  by_cases h : i < N
  · rw [ev_tmp h, if_pos h]
  · rw [if_neg h]; simp [ev, List.getD, List.getElem?_eq_none (by rw [tab_len]; omega : (tab N e).length ≤ i)]
theorem ev_func (f : FuncId) : ev P (tab N e) (.func f) = some (.func (.func f) [] []) := rfl
theorem evOpt_none : evOpt P (tab N e) none = some none := rfl
theorem evOpt_some (x : Operand) : evOpt P (tab N e) (some x) = (ev P (tab N e) x).map some := rfl

/-! ## two operands -/
variable {t : TypeId} {k : IntKind} {a b : Int}
theorem binR_quo' : binR P .quo t (some (.int k a)) (some (.int k b)) H = if b = 0 then none else some (.int k (k.wrap (a.tdiv b)), H) := by
  by_cases h : b = 0
  · simp [binR, binSem, intOp, h]
  · rw [if_neg h]; exact binR_quo h
theorem binR_rem' : binR P .rem t (some (.int k a)) (some (.int k b)) H = if b = 0 then none else some (.int k (a.tmod b), H) := by
  by_cases h : b = 0
  · simp [binR, binSem, intOp, h]
  · rw [if_neg h]; exact binR_rem h
def isBoolT (P : Program) (t : TypeId) : Bool := match P.underlying t with | some .bool => true | _ => false
theorem isBoolT_of (h : isBoolT P t = true) : P.underlying t = some .bool := by unfold isBoolT at h; split at h <;> first | assumption | cases h
theorem binR_beql' {x y : Bool} : binR P .eql t (some (.bool x)) (some (.bool y)) H = if isBoolT P t then some (.bool (x == y), H) else none := by
  by_cases h : isBoolT P t = true
  · rw [if_pos h]; exact binR_beql (isBoolT_of h)
  · rw [if_neg h]; unfold isBoolT at h; simp only [binR, binSem]; split at h <;> first | (exact absurd rfl h) | (split <;> simp_all)
theorem binR_bneq' {x y : Bool} : binR P .neq t (some (.bool x)) (some (.bool y)) H = if isBoolT P t then some (.bool !(x == y), H) else none := by
  by_cases h : isBoolT P t = true
  · rw [if_pos h]; exact binR_bneq (isBoolT_of h)
  · rw [if_neg h]; unfold isBoolT at h; simp only [binR, binSem]; split at h <;> first | (exact absurd rfl h) | (split <;> simp_all)

theorem eqSem_ptrnil {x : Option (Nat × Nat)} {neg : Bool} : eqSem P t (.ptr x) (.ptr none) neg = if isPtrT P t then some (.pure (.bool (x.isNone != neg))) else none := by
  unfold eqSem isPtrT
  cases P.underlying t with
  | none => cases x <;> rfl
  | some d => cases d <;> cases x <;> rfl
theorem binR_ptrn {x : Option (Nat × Nat)} : binR P .eql t (some (.ptr x)) (some (.ptr none)) H = if isPtrT P t then some (.bool x.isNone, H) else none := by
  simp only [binR, binSem, eqSem_ptrnil]
  by_cases h : isPtrT P t = true <;> simp [h, Sm.run]
theorem binR_ptrnn {x : Option (Nat × Nat)} : binR P .neq t (some (.ptr x)) (some (.ptr none)) H = if isPtrT P t then some (.bool !x.isNone, H) else none := by
  simp only [binR, binSem, eqSem_ptrnil]
  by_cases h : isPtrT P t = true <;> simp [h, Sm.run]
theorem binR_sln {x : Option (Nat × Nat)} {n c : Nat} {s : Option Nat} {n' c' : Nat} {s' : Option Nat} : binR P .eql t (some (.slice x n c s)) (some (.slice none n' c' s')) H = if isSliceT P t then some (.bool x.isNone, H) else none := by
  by_cases h : isSliceT P t = true
  · rw [if_pos h]; exact binR_slnil h
  · rw [if_neg h]; unfold isSliceT at h; simp only [binR, binSem, eqSem]; split at h <;> first | (exact absurd rfl h) | (split <;> simp_all)
theorem binR_slnn {x : Option (Nat × Nat)} {n c : Nat} {s : Option Nat} {n' c' : Nat} {s' : Option Nat} : binR P .neq t (some (.slice x n c s)) (some (.slice none n' c' s')) H = if isSliceT P t then some (.bool !x.isNone, H) else none := by
  by_cases h : isSliceT P t = true
  · rw [if_pos h]; exact binR_slniln h
  · rw [if_neg h]; unfold isSliceT at h; simp only [binR, binSem, eqSem]; split at h <;> first | (exact absurd rfl h) | (split <;> simp_all)

/-- Two pointers into one block. -/
theorem binR_ptreq {b o o' : Nat} (hp : isPtrT P t = true) (hz : ∀ u, P.underlying t = some (.pointer u) → (tsz P u).getD 0 ≠ 0) :
    binR P .eql t (some (.ptr (some (b, o)))) (some (.ptr (some (b, o')))) H = some (.bool (o == o'), H) := by
  obtain ⟨u, hu⟩ := isPtrT_of hp
  simp [binR, binSem, eqSem, Sm.run, hu, hz u hu]
theorem binR_ptrne {b o b' o' : Nat} {c d : List AV} {x y : TypeId} (hp : isPtrT P t = true) (hz : ∀ u, P.underlying t = some (.pointer u) → (tsz P u).getD 0 ≠ 0) (hne : b ≠ b')
    (h1 : H.get b = some (.cells c x true false)) (h2 : H.get b' = some (.cells d y true false)) (l1 : o < c.length) (l2 : o' < d.length) :
    binR P .eql t (some (.ptr (some (b, o)))) (some (.ptr (some (b', o')))) H = some (.bool false, H) := by
  obtain ⟨u, hu⟩ := isPtrT_of hp
  simp [binR, binSem, eqSem, Sm.run, hu, hz u hu, hne, mapOpt, h1, h2, eqRead, l1, l2]

theorem binR_shl : binR P .shl t (some (.int k a)) (some (.int .u64 b)) H = if b < 0 then none else some (.int k (k.wrap (a * 2 ^ (min b.toNat k.bits))), H) := by
  simp only [binR, binSem, shiftOp]
  by_cases h : b < 0 <;> simp [h, Sm.run]
theorem binR_shr {j : IntKind} : binR P .shr t (some (.int k a)) (some (.int j b)) H = if b < 0 then none else some (.int k (a.fdiv (2 ^ (min b.toNat k.bits))), H) := by
  simp only [binR, binSem, shiftOp]
  by_cases h : b < 0 <;> simp [h, Sm.run]
theorem binR_shl' {j : IntKind} : binR P .shl t (some (.int k a)) (some (.int j b)) H = if b < 0 then none else some (.int k (k.wrap (a * 2 ^ (min b.toNat k.bits))), H) := by
  simp only [binR, binSem, shiftOp]
  by_cases h : b < 0 <;> simp [h, Sm.run]
theorem binR_strlss {x y : List UInt8} : binR P .lss t (some (.str x)) (some (.str y)) H = some (.bool (Op.bytesLess x y), H) := by simp [binR, binSem, strOp, Sm.run]
theorem binR_strgtr {x y : List UInt8} : binR P .gtr t (some (.str x)) (some (.str y)) H = some (.bool !(Op.bytesLess x y || x == y), H) := by simp [binR, binSem, strOp, Sm.run]
theorem binR_stradd' {x y : List UInt8} : binR P .add t (some (.str x)) (some (.str y)) H = if x.length + y.length ≤ 4611686018427387904 then some (.str (x ++ y), H) else none := by
  have e : (4611686018427387904 : Nat) = 2 ^ 62 := by decide
  rw [e]
  simp only [binR, binSem, strOp]
  by_cases h : x.length + y.length ≤ 2 ^ 62 <;> simp [h, Sm.run]
theorem unR_neg : unR .neg (some (.int k a)) H = some (.int k (k.wrap (0 - a)), H) := by unfold unR; rfl
theorem unR_xor : unR .xor (some (.int k a)) H = some (.int k (k.wrap (BitVec.ofInt k.bits (if k.signed then -1 else k.max) ^^^ BitVec.ofInt k.bits a).toNat), H) := by unfold unR; rfl

/-! structs compared -/
theorem binR_agg {cs ds : List AV} : binR P .eql t (some (.agg cs)) (some (.agg ds)) H = match eqSem P t (.agg cs) (.agg ds) false with | some s => s.run H | none => none := by unfold binR; rfl
theorem binR_aggn {cs ds : List AV} : binR P .neq t (some (.agg cs)) (some (.agg ds)) H = match eqSem P t (.agg cs) (.agg ds) true with | some s => s.run H | none => none := by unfold binR; rfl

/-! ## builtins: 'builtinX' is builtinR, stuck -/
def builtinX (P : Program) (b : Builtin) (ts : Array TypeId) (args : Option (List AV)) (H : Heap) : Option (AV × Heap) := builtinR P b ts args H
theorem len_slice' {ts : Array TypeId} {x : Option (Nat × Nat)} {n c : Nat} {s : Option Nat} : builtinR P .len ts (some [.slice x n c s]) H = if firstT isSliceT P ts then some (.int .i64 n, H) else builtinX P .len ts (some [.slice x n c s]) H := by
  by_cases h : firstT isSliceT P ts = true
  · rw [if_pos h]; exact len_slice h
  · rw [if_neg h]; rfl
theorem len_str' {ts : Array TypeId} {x : List UInt8} : builtinR P .len ts (some [.str x]) H = if firstT isStrT P ts then some (.int .i64 x.length, H) else builtinX P .len ts (some [.str x]) H := by
  by_cases h : firstT isStrT P ts = true
  · rw [if_pos h]; exact len_str h
  · rw [if_neg h]; rfl
theorem len_mapnil' {ts : Array TypeId} : builtinR P .len ts (some [.map none]) H = if firstT isMapT P ts then some (.int .i64 0, H) else builtinX P .len ts (some [.map none]) H := by
  by_cases h : firstT isMapT P ts = true
  · rw [if_pos h]; exact len_mapnil h
  · rw [if_neg h]; rfl
theorem len_map' {ts : Array TypeId} {r : Nat} : builtinR P .len ts (some [.map (some r)]) H = if firstT isMapT P ts then (match H.get r with | some (.map es) => some (.int .i64 es.length, H) | _ => none) else builtinX P .len ts (some [.map (some r)]) H := by
  by_cases h : firstT isMapT P ts = true
  · rw [if_pos h]
    obtain ⟨t, ht, h⟩ := firstT_of h
    obtain ⟨_, _, hu⟩ := isMapT_of h
    simp only [builtinR_eq, builtinSem, lenSem, ht, hu, Sm.run, mapOpt]
    cases H.get r with
    | none => rfl
    | some o => cases o <;> rfl
  · rw [if_neg h]; rfl
def isArrT (P : Program) (t : TypeId) : Option Nat := match P.underlying t with | some (.array n _) => some n | _ => none
theorem len_arr {ts : Array TypeId} {cs : List AV} : builtinR P .len ts (some [.agg cs]) H = match ts[0]? with | some t => (match isArrT P t with | some n => some (.int .i64 n, H) | none => builtinX P .len ts (some [.agg cs]) H) | none => none := by
  simp only [builtinR_eq, builtinSem, lenSem, builtinX]
  cases ht : ts[0]? with
  | none => rfl
  | some t =>
    simp only [isArrT]
    cases hu : P.underlying t with
    | none => rfl
    | some d => cases d <;> simp [hu, Sm.run]
theorem min_two' {ts : Array TypeId} : builtinR P .min ts (some [.int k a, .int k b]) H = some (.int k (min a b), H) := by
  rw [min_two, show (if b < a then b else a) = min a b from by split <;> omega]
theorem max_two' {ts : Array TypeId} : builtinR P .max ts (some [.int k a, .int k b]) H = some (.int k (max a b), H) := by
  rw [max_two, show (if b > a then b else a) = max a b from by split <;> omega]

end
attribute [irreducible] builtinX
end Go.Abs

/- The walking kit, second part: conversions, slicing, indexes, what is made, maps. -/
namespace Go.Abs
set_option linter.unusedVariables false
set_option linter.unusedSimpArgs false

section
variable {P : Program} {N : Nat} {e : Nat → AV} {H : Heap}

/-! ## conversions -/
def convR (P : Program) (s t : TypeId) : Option AV → Heap → Option (AV × Heap)
  | some v, H => match convSem P s t v with
    | some m => m.run H
    | none => none
  | none, _ => none
theorem opR_conv (s t : TypeId) (x : Operand) : opR P N e (.convert s t x) H = convR P s t (ev P (tab N e) x) H := by
  simp only [opR_eq, sem]
  cases ev P (tab N e) x <;> rfl
def convX (P : Program) (s t : TypeId) (v : AV) (H : Heap) : Option (AV × Heap) := convR P s t (some v) H
/-- the kind of a number's type -/
def intT (P : Program) (t : TypeId) : Option IntKind := match P.underlying t with | some (.int k) => some k | _ => none
/-- a slice of bytes -/
def bytesT (P : Program) (t : TypeId) : Bool := match P.underlying t with
  | some (.slice e) => match P.underlying e with | some (.int .u8) => true | _ => false
  | _ => false
/-- its elements' type -/
def elemT (P : Program) (t : TypeId) : Option TypeId := match P.underlying t with | some (.slice e) => some e | _ => none
theorem bytesT_of {t : TypeId} (h : bytesT P t = true) : ∃ u, P.underlying t = some (.slice u) ∧ P.underlying u = some (.int .u8) := by
  unfold bytesT at h
  split at h
  · rename_i u hu
    split at h
    · exact ⟨u, hu, by assumption⟩
    · cases h
  · cases h
theorem convR_int {s t : TypeId} {j : IntKind} {n : Int} : convR P s t (some (.int j n)) H = match intT P s, intT P t with | some _, some k => some (.int k (k.wrap n), H) | _, _ => convX P s t (.int j n) H := by
  cases hs : intT P s with
  | none => rfl
  | some i =>
    cases ht : intT P t with
    | none => rfl
    | some k =>
      unfold intT at hs ht
      simp only [convR, convSem]
      split at hs <;> first | cases hs | skip
      split at ht <;> first | cases ht | skip
      rename_i h1 _ h2
      simp only [h1, h2, Sm.run]
theorem convR_str {s t : TypeId} {x : List UInt8} : convR P s t (some (.str x)) H = if isStrT P s && isStrT P t then some (.str x, H) else
    if isStrT P s && bytesT P t then (match elemT P t with | some e => if tsz P e = some 1 ∧ x.length ≤ 4611686018427387904 then some (.slice (some (H.next, 0)) x.length x.length (some 1), H.push (.cells (cellsOfBytes x) e true true)) else none | none => none) else convX P s t (.str x) H := by
  by_cases h : (isStrT P s && isStrT P t) = true
  · rw [if_pos h]
    rw [Bool.and_eq_true] at h
    have h1 := isStrT_of h.1
    have h2 := isStrT_of h.2
    simp only [convR, convSem, h1, h2, Sm.run]
  · rw [if_neg h]
    by_cases g : (isStrT P s && bytesT P t) = true
    · rw [if_pos g]
      rw [Bool.and_eq_true] at g
      have h1 := isStrT_of g.1
      obtain ⟨u, h2, h3⟩ := bytesT_of g.2
      have e2 : (4611686018427387904 : Nat) = 2 ^ 62 := by decide
      rw [e2]
      simp only [elemT, h2, convR, convSem, h1, h3]
      by_cases hc : tsz P u = some 1 ∧ x.length ≤ 2 ^ 62
      · simp only [if_pos hc, Sm.run]
      · simp only [if_neg hc]
    · rw [if_neg g]; rfl
theorem convR_bytes {s t : TypeId} {b o n c : Nat} {x : Option Nat} : convR P s t (some (.slice (some (b, o)) n c x)) H = if bytesT P s && isStrT P t then (match H.get b with | some (.cells cs _ _ _) => if o + n ≤ cs.length then (match bytesOfCells ((cs.drop o).take n) with | some l => some (.str l, H) | none => none) else none | _ => none) else convX P s t (.slice (some (b, o)) n c x) H := by
  by_cases h : (bytesT P s && isStrT P t) = true
  · rw [if_pos h]
    rw [Bool.and_eq_true] at h
    obtain ⟨u, h1, h3⟩ := bytesT_of h.1
    have h2 := isStrT_of h.2
    simp only [convR, convSem, h1, h2, h3, Sm.run, mapOpt]
    cases hb : H.get b with
    | none => simp
    | some o' =>
      cases o' with
      | cells cs e w m =>
        simp only []
        by_cases hc : o + n ≤ cs.length
        · simp only [if_pos hc]
          cases bytesOfCells ((cs.drop o).take n) <;> rfl
        · simp only [if_neg hc]
      | _ => rfl
  · rw [if_neg h]; rfl
theorem convR_bytesnil {s t : TypeId} {n c : Nat} {x : Option Nat} : convR P s t (some (.slice none n c x)) H = if bytesT P s && isStrT P t then some (.str [], H) else convX P s t (.slice none n c x) H := by
  by_cases h : (bytesT P s && isStrT P t) = true
  · rw [if_pos h]
    rw [Bool.and_eq_true] at h
    obtain ⟨u, h1, h3⟩ := bytesT_of h.1
    have h2 := isStrT_of h.2
    simp only [convR, convSem, h1, h2, h3, Sm.run]
  · rw [if_neg h]; rfl

/-- So many bytes 0. -/
def zeroB (n : Nat) : List UInt8 := List.replicate n 0
theorem zeroB_len (n : Nat) : (zeroB n).length = n := by simp [zeroB]
theorem bytesOfCells_of (l : List UInt8) : bytesOfCells (cellsOfBytes l) = some l := by
  induction l with
  | nil => rfl
  | cons x l ih =>
    have e1 : cellsOfBytes (x :: l) = .int .u8 x.toNat :: cellsOfBytes l := rfl
    rw [e1, bytesOfCells, ih]
    simp
theorem cellsOfBytes_len (l : List UInt8) : (cellsOfBytes l).length = l.length := by simp [cellsOfBytes]
theorem cellsOfBytes_drop (l : List UInt8) (n : Nat) : (cellsOfBytes l).drop n = cellsOfBytes (l.drop n) := by simp [cellsOfBytes, List.map_drop]
theorem cellsOfBytes_take (l : List UInt8) (n : Nat) : (cellsOfBytes l).take n = cellsOfBytes (l.take n) := by simp [cellsOfBytes, List.map_take]
theorem cellsOfBytes_app (l m : List UInt8) : cellsOfBytes (l ++ m) = cellsOfBytes l ++ cellsOfBytes m := by simp [cellsOfBytes]
theorem cellsOfBytes_nil : cellsOfBytes [] = [] := rfl
theorem cellsOfBytes_get (l : List UInt8) (i : Nat) : (cellsOfBytes l)[i]? = (l[i]?).map fun b => AV.int .u8 b.toNat := by simp [cellsOfBytes]
theorem cellsOfBytes_one (l : List UInt8) : (cellsOfBytes l).all AV.one = true := by simp [cellsOfBytes, AV.one]
theorem cellsOfBytes_inj {l m : List UInt8} (h : cellsOfBytes l = cellsOfBytes m) : l = m := by
  have := congrArg bytesOfCells h
  simpa [bytesOfCells_of] using this

/-! ## slicing -/
def sliceR (P : Program) (t : TypeId) : Option AV → Option (Option AV) → Option (Option AV) → Option (Option AV) → Heap → Option (AV × Heap)
  | some v, some l, some h, some m, H => match sliceSem P t v l h m with
    | some r => some (r, H)
    | none => none
  | _, _, _, _, _ => none
theorem opR_slice (t : TypeId) (x : Operand) (lo hi mx : Option Operand) : opR P N e (.slice t x lo hi mx) H = sliceR P t (ev P (tab N e) x) (evOpt P (tab N e) lo) (evOpt P (tab N e) hi) (evOpt P (tab N e) mx) H := by
  simp only [opR_eq, sem]
  cases ev P (tab N e) x with
  | none => cases evOpt P (tab N e) lo <;> cases evOpt P (tab N e) hi <;> cases evOpt P (tab N e) mx <;> rfl
  | some v =>
    cases evOpt P (tab N e) lo with
    | none => cases evOpt P (tab N e) hi <;> cases evOpt P (tab N e) mx <;> rfl
    | some l =>
      cases evOpt P (tab N e) hi with
      | none => cases evOpt P (tab N e) mx <;> rfl
      | some h =>
        cases evOpt P (tab N e) mx with
        | none => rfl
        | some m => simp only [sliceR]; cases sliceSem P t v l h m <;> rfl
/-- bounds as numbers -/
def bnd : Option AV → Int → Option Int
  | some (.int _ i), _ => some i
  | some _, _ => none
  | none, d => some d
def slcR (s : Nat) (a : Option (Nat × Nat)) (cap : Nat) (ex : Option Nat) (mx : Bool) (l h m : Int) (H : Heap) : Option (AV × Heap) :=
  if 0 ≤ l ∧ l ≤ h ∧ h ≤ m ∧ m ≤ cap then match a with
    | none => some (.slice none 0 0 none, H)
    | some (b, o) => if ex = none ∨ ex = some s then some (.slice (some (b, o + l.toNat * s)) (h - l).toNat (m - l).toNat (if mx then none else ex), H) else none
  else none
theorem bnd_some {o : Option AV} {d l : Int} (h : bnd o d = some l) : (o = none ∧ d = l) ∨ ∃ k, o = some (.int k l) := by
  cases o with
  | none => simp [bnd] at h; exact .inl ⟨rfl, h⟩
  | some v => cases v <;> simp [bnd] at h; exact .inr ⟨_, by rw [h]⟩
theorem boundA_int {k : IntKind} {i : Int} {y : Nat} : boundA (.int k i) y = if 0 ≤ i ∧ i ≤ y then some i.toNat else none := rfl
theorem boundsA_yes {len cap : Nat} {lo hi mx : Option AV} {l h m : Int} (hl : bnd lo 0 = some l) (hh : bnd hi (if mx.isSome then -1 else len) = some h) (hm : bnd mx cap = some m) (hlc : len ≤ cap) (hf : mx.isSome → hi.isSome)
    (hc : 0 ≤ l ∧ l ≤ h ∧ h ≤ m ∧ m ≤ cap) : boundsA len cap lo hi mx = some (l.toNat, h.toNat, m.toNat) := by
  obtain ⟨c1, c2, c3, c4⟩ := hc
  unfold boundsA
  rcases bnd_some hm with ⟨rfl, rfl⟩ | ⟨k, rfl⟩
  · rcases bnd_some hh with ⟨rfl, rfl⟩ | ⟨j, rfl⟩
    · rcases bnd_some hl with ⟨rfl, rfl⟩ | ⟨i, rfl⟩
      · simp
      · simp only [boundA_int]; rw [if_pos ⟨c1, by simpa using c2⟩]; simp
    · simp only [boundA_int]
      rw [if_pos ⟨by omega, by omega⟩]
      rcases bnd_some hl with ⟨rfl, rfl⟩ | ⟨i, rfl⟩
      · simp
      · simp only [boundA_int]; rw [if_pos ⟨c1, by omega⟩]; simp
  · rcases bnd_some hh with ⟨rfl, rfl⟩ | ⟨j, rfl⟩
    · simp at hf
    · simp only [boundA_int]
      rw [if_pos ⟨by omega, c4⟩]
      simp only []
      rw [if_pos ⟨by omega, by omega⟩]
      rcases bnd_some hl with ⟨rfl, rfl⟩ | ⟨i, rfl⟩
      · simp
      · simp only [boundA_int]; rw [if_pos ⟨c1, by omega⟩]
theorem boundsA_no {len cap : Nat} {lo hi mx : Option AV} {l h m : Int} (hl : bnd lo 0 = some l) (hh : bnd hi (if mx.isSome then -1 else len) = some h) (hm : bnd mx cap = some m) (hlc : len ≤ cap) (hf : mx.isSome → hi.isSome)
    (hc : ¬ (0 ≤ l ∧ l ≤ h ∧ h ≤ m ∧ m ≤ cap)) : boundsA len cap lo hi mx = none := by
  unfold boundsA
  rcases bnd_some hm with ⟨rfl, rfl⟩ | ⟨k, rfl⟩
  · rcases bnd_some hh with ⟨rfl, rfl⟩ | ⟨j, rfl⟩
    · rcases bnd_some hl with ⟨rfl, rfl⟩ | ⟨i, rfl⟩
      · simp at hc; omega
      · simp only [boundA_int]; rw [if_neg (by simp at hc ⊢; omega)]
    · simp only [boundA_int]
      by_cases hq : 0 ≤ h ∧ h ≤ cap
      · rw [if_pos hq]
        rcases bnd_some hl with ⟨rfl, rfl⟩ | ⟨i, rfl⟩
        · omega
        · simp only [boundA_int]; rw [if_neg (by omega)]
      · rw [if_neg hq]
  · rcases bnd_some hh with ⟨rfl, rfl⟩ | ⟨j, rfl⟩
    · simp at hf
    · simp only [boundA_int]
      by_cases hq : 0 ≤ m ∧ m ≤ cap
      · rw [if_pos hq]
        simp only []
        by_cases hr : 0 ≤ h ∧ h ≤ m.toNat
        · rw [if_pos hr]
          rcases bnd_some hl with ⟨rfl, rfl⟩ | ⟨i, rfl⟩
          · omega
          · simp only [boundA_int]; rw [if_neg (by omega)]
        · rw [if_neg hr]
      · rw [if_neg hq]
theorem sliceR_slice {t : TypeId} {a : Option (Nat × Nat)} {len cap : Nat} {ex : Option Nat} {lo hi mx : Option AV} {s : Nat} (hs : elemS P t = some s) {l h m : Int}
    (hl : bnd lo 0 = some l) (hh : bnd hi (if mx.isSome then -1 else len) = some h) (hm : bnd mx cap = some m) (hlc : len ≤ cap) (hf : mx.isSome → hi.isSome) :
    sliceR P t (some (.slice a len cap ex)) (some lo) (some hi) (some mx) H = slcR s a cap ex mx.isSome l h m H := by
  unfold elemS at hs
  split at hs
  · rename_i u hu
    simp only [sliceR, sliceSem, hu, slcR]
    by_cases hc : 0 ≤ l ∧ l ≤ h ∧ h ≤ m ∧ m ≤ cap
    · rw [if_pos hc, boundsA_yes hl hh hm hlc hf hc, hs]
      obtain ⟨c1, c2, c3, c4⟩ := hc
      cases a with
      | none => rfl
      | some p =>
        obtain ⟨b, o⟩ := p
        simp only []
        have e4 : (ex.isNone || ex == some s) = decide (ex = none ∨ ex = some s) := by
          cases ex with
          | none => simp
          | some y => by_cases hy : y = s <;> simp [hy]
        rw [e4]
        by_cases hx : ex = none ∨ ex = some s
        · simp only [hx, decide_true, if_true]
          rw [show h.toNat - l.toNat = (h - l).toNat from by omega, show m.toNat - l.toNat = (m - l).toNat from by omega]
        · simp [hx]
    · rw [if_neg hc, boundsA_no hl hh hm hlc hf hc]
  · cases hs

/-- the four forms over a slice: s[l:], s[:h], s[l:h], s[l:h:m] -/
theorem slc_l {t : TypeId} {a : Option (Nat × Nat)} {len cap : Nat} {ex : Option Nat} {k : IntKind} {l : Int} (hc : len ≤ cap) : sliceR P t (some (.slice a len cap ex)) (some (some (.int k l))) (some none) (some none) H = match elemS P t with | some s => slcR s a cap ex false l len cap H | none => none := by
  cases hs : elemS P t with
  | some s => exact sliceR_slice hs rfl rfl rfl hc (by simp)
  | none => unfold elemS at hs; simp only [sliceR, sliceSem]; split at hs <;> simp_all
theorem slc_h {t : TypeId} {a : Option (Nat × Nat)} {len cap : Nat} {ex : Option Nat} {k : IntKind} {h : Int} (hc : len ≤ cap) : sliceR P t (some (.slice a len cap ex)) (some none) (some (some (.int k h))) (some none) H = match elemS P t with | some s => slcR s a cap ex false 0 h cap H | none => none := by
  cases hs : elemS P t with
  | some s => exact sliceR_slice hs rfl rfl rfl hc (by simp)
  | none => unfold elemS at hs; simp only [sliceR, sliceSem]; split at hs <;> simp_all
theorem slc_lh {t : TypeId} {a : Option (Nat × Nat)} {len cap : Nat} {ex : Option Nat} {k j : IntKind} {l h : Int} (hc : len ≤ cap) : sliceR P t (some (.slice a len cap ex)) (some (some (.int k l))) (some (some (.int j h))) (some none) H = match elemS P t with | some s => slcR s a cap ex false l h cap H | none => none := by
  cases hs : elemS P t with
  | some s => exact sliceR_slice hs rfl rfl rfl hc (by simp)
  | none => unfold elemS at hs; simp only [sliceR, sliceSem]; split at hs <;> simp_all
theorem slc_hm {t : TypeId} {a : Option (Nat × Nat)} {len cap : Nat} {ex : Option Nat} {k i : IntKind} {h m : Int} (hc : len ≤ cap) : sliceR P t (some (.slice a len cap ex)) (some none) (some (some (.int k h))) (some (some (.int i m))) H = match elemS P t with | some s => slcR s a cap ex true 0 h m H | none => none := by
  cases hs : elemS P t with
  | some s => exact sliceR_slice hs rfl rfl rfl hc (by simp)
  | none => unfold elemS at hs; simp only [sliceR, sliceSem]; split at hs <;> simp_all
theorem slc_lhm {t : TypeId} {a : Option (Nat × Nat)} {len cap : Nat} {ex : Option Nat} {k j i : IntKind} {l h m : Int} (hc : len ≤ cap) : sliceR P t (some (.slice a len cap ex)) (some (some (.int k l))) (some (some (.int j h))) (some (some (.int i m))) H = match elemS P t with | some s => slcR s a cap ex true l h m H | none => none := by
  cases hs : elemS P t with
  | some s => exact sliceR_slice hs rfl rfl rfl hc (by simp)
  | none => unfold elemS at hs; simp only [sliceR, sliceSem]; split at hs <;> simp_all
theorem slcR_some {s b o cap : Nat} {ex : Option Nat} {mx : Bool} {l h m : Int} (hc : 0 ≤ l ∧ l ≤ h ∧ h ≤ m ∧ m ≤ cap) : slcR s (some (b, o)) cap ex mx l h m H = if ex = none ∨ ex = some s then some (.slice (some (b, o + l.toNat * s)) (h - l).toNat (m - l).toNat (if mx then none else ex), H) else none := by
  unfold slcR; rw [if_pos hc]
theorem slcR_none {s cap : Nat} {ex : Option Nat} {mx : Bool} {l h m : Int} (hc : 0 ≤ l ∧ l ≤ h ∧ h ≤ m ∧ m ≤ cap) : slcR s none cap ex mx l h m H = some (.slice none 0 0 none, H) := by
  unfold slcR; rw [if_pos hc]

/-- over a pointer to an array -/
theorem slcA_gen {t : TypeId} {b o : Nat} {lo hi : Option AV} {n s : Nat} (hs : elemA P t = some (n, s)) {l h : Int} (hl : bnd lo 0 = some l) (hh : bnd hi n = some h) (hc : 0 ≤ l ∧ l ≤ h ∧ h ≤ n) :
    sliceR P t (some (.ptr (some (b, o)))) (some lo) (some hi) (some none) H = some (.slice (some (b, o + l.toNat * s)) (h - l).toNat (n - l).toNat none, H) := by
  unfold elemA at hs
  split at hs
  · rename_i n' u hu
    cases hz : tsz P u with
    | none => simp [hz] at hs
    | some s' =>
      simp [hz] at hs
      obtain ⟨rfl, rfl⟩ := hs
      have e4 := boundsA_yes (len := n') (cap := n') (mx := none) (m := n') hl (by simpa using hh) rfl (Nat.le_refl _) (by simp) ⟨hc.1, hc.2.1, hc.2.2, Int.le_refl _⟩
      obtain ⟨c1, c2, c3⟩ := hc
      simp only [sliceR, sliceSem, hu, e4, hz]
      rw [show h.toNat - l.toNat = (h - l).toNat from by omega, show ((n' : Int)).toNat - l.toNat = ((n' : Int) - l).toNat from by omega]
  · cases hs

/-- over a text -/
theorem slcS_gen {t : TypeId} {x : List UInt8} {lo hi : Option AV} (ht : isStrT P t = true) {l h : Int} (hl : bnd lo 0 = some l) (hh : bnd hi x.length = some h) (hc : 0 ≤ l ∧ l ≤ h ∧ h ≤ x.length) :
    sliceR P t (some (.str x)) (some lo) (some hi) (some none) H = some (.str ((x.take h.toNat).drop l.toNat), H) := by
  have hu := isStrT_of ht
  have e4 := boundsA_yes (len := x.length) (cap := x.length) (mx := none) (m := x.length) hl (by simpa using hh) rfl (Nat.le_refl _) (by simp) ⟨hc.1, hc.2.1, hc.2.2, Int.le_refl _⟩
  simp only [sliceR, sliceSem, hu, e4]

end
attribute [irreducible] convR convX sliceR slcR
end Go.Abs

/- The walking kit, third part: texts and arrays cut and indexed, what is made, maps by whole numbers, copies. -/
namespace Go.Abs
set_option linter.unusedVariables false
set_option linter.unusedSimpArgs false

section
variable {P : Program} {N : Nat} {e : Nat → AV} {H : Heap}

/-! ## cuts of texts and arrays -/
def sliceX (P : Program) (t : TypeId) (v : AV) (lo hi : Option AV) (H : Heap) : Option (AV × Heap) := sliceR P t (some v) (some lo) (some hi) (some none) H
def cutS (x : List UInt8) (l h : Int) (H : Heap) : Option (AV × Heap) := if 0 ≤ l ∧ l ≤ h ∧ h ≤ x.length then some (.str ((x.take h.toNat).drop l.toNat), H) else none
theorem slcS_all {t : TypeId} {x : List UInt8} {lo hi : Option AV} {l h : Int} (hl : bnd lo 0 = some l) (hh : bnd hi x.length = some h) :
    sliceR P t (some (.str x)) (some lo) (some hi) (some none) H = if isStrT P t then cutS x l h H else sliceX P t (.str x) lo hi H := by
  by_cases ht : isStrT P t = true
  · rw [if_pos ht]
    unfold cutS
    by_cases hc : 0 ≤ l ∧ l ≤ h ∧ h ≤ x.length
    · rw [if_pos hc]; exact slcS_gen ht hl hh hc
    · rw [if_neg hc]
      have hu := isStrT_of ht
      have e4 := boundsA_no (len := x.length) (cap := x.length) (mx := none) (m := x.length) hl (by simpa using hh) rfl (Nat.le_refl _) (by simp) (by omega)
      unfold sliceR
      simp only [sliceSem, hu, e4]
  · rw [if_neg ht]; rfl
theorem slcS_l {t : TypeId} {x : List UInt8} {k : IntKind} {l : Int} : sliceR P t (some (.str x)) (some (some (.int k l))) (some none) (some none) H = if isStrT P t then cutS x l x.length H else sliceX P t (.str x) (some (.int k l)) none H := slcS_all rfl rfl
theorem slcS_h {t : TypeId} {x : List UInt8} {k : IntKind} {h : Int} : sliceR P t (some (.str x)) (some none) (some (some (.int k h))) (some none) H = if isStrT P t then cutS x 0 h H else sliceX P t (.str x) none (some (.int k h)) H := slcS_all rfl rfl
theorem slcS_lh {t : TypeId} {x : List UInt8} {k j : IntKind} {l h : Int} : sliceR P t (some (.str x)) (some (some (.int k l))) (some (some (.int j h))) (some none) H = if isStrT P t then cutS x l h H else sliceX P t (.str x) (some (.int k l)) (some (.int j h)) H := slcS_all rfl rfl
theorem cutS_ok {x : List UInt8} {l h : Int} (hc : 0 ≤ l ∧ l ≤ h ∧ h ≤ x.length) : cutS x l h H = some (.str ((x.take h.toNat).drop l.toNat), H) := by unfold cutS; rw [if_pos hc]

def cutA (b o n s : Nat) (l h : Int) (H : Heap) : Option (AV × Heap) := if 0 ≤ l ∧ l ≤ h ∧ h ≤ n then some (.slice (some (b, o + l.toNat * s)) (h - l).toNat (n - l).toNat none, H) else none
theorem slcA_all {t : TypeId} {b o : Nat} {lo hi : Option AV} {l : Int} (h : Nat → Int) (hl : bnd lo 0 = some l) (hh : ∀ n : Nat, bnd hi n = some (h n)) :
    sliceR P t (some (.ptr (some (b, o)))) (some lo) (some hi) (some none) H = match elemA P t with | some (n, s) => cutA b o n s l (h n) H | none => sliceX P t (.ptr (some (b, o))) lo hi H := by
  cases ha : elemA P t with
  | none => rfl
  | some p =>
    obtain ⟨n, s⟩ := p
    simp only []
    unfold cutA
    by_cases hc : 0 ≤ l ∧ l ≤ h n ∧ h n ≤ n
    · rw [if_pos hc]; exact slcA_gen ha hl (hh n) hc
    · rw [if_neg hc]
      unfold elemA at ha
      split at ha
      · rename_i n' u hu
        cases hz : tsz P u with
        | none => simp [hz] at ha
        | some s' =>
          simp [hz] at ha
          obtain ⟨rfl, rfl⟩ := ha
          have e4 := boundsA_no (len := n') (cap := n') (mx := none) (m := n') hl (by simpa using hh n') rfl (Nat.le_refl _) (by simp) (by omega)
          unfold sliceR
          simp only [sliceSem, hu, e4]
      · cases ha
theorem slcA_l {t : TypeId} {b o : Nat} {k : IntKind} {l : Int} : sliceR P t (some (.ptr (some (b, o)))) (some (some (.int k l))) (some none) (some none) H = match elemA P t with | some (n, s) => cutA b o n s l n H | none => sliceX P t (.ptr (some (b, o))) (some (.int k l)) none H := slcA_all (fun n => n) rfl fun _ => rfl
theorem slcA_h {t : TypeId} {b o : Nat} {k : IntKind} {h : Int} : sliceR P t (some (.ptr (some (b, o)))) (some none) (some (some (.int k h))) (some none) H = match elemA P t with | some (n, s) => cutA b o n s 0 h H | none => sliceX P t (.ptr (some (b, o))) none (some (.int k h)) H := slcA_all (fun _ => h) rfl fun _ => rfl
theorem slcA_lh {t : TypeId} {b o : Nat} {k j : IntKind} {l h : Int} : sliceR P t (some (.ptr (some (b, o)))) (some (some (.int k l))) (some (some (.int j h))) (some none) H = match elemA P t with | some (n, s) => cutA b o n s l h H | none => sliceX P t (.ptr (some (b, o))) (some (.int k l)) (some (.int j h)) H := slcA_all (fun _ => h) rfl fun _ => rfl
theorem slcA_0 {t : TypeId} {b o : Nat} : sliceR P t (some (.ptr (some (b, o)))) (some none) (some none) (some none) H = match elemA P t with | some (n, s) => cutA b o n s 0 n H | none => sliceX P t (.ptr (some (b, o))) none none H := slcA_all (fun n => n) rfl fun _ => rfl
theorem cutA_ok {b o n s : Nat} {l h : Int} (hc : 0 ≤ l ∧ l ≤ h ∧ h ≤ n) : cutA b o n s l h H = some (.slice (some (b, o + l.toNat * s)) (h - l).toNat (n - l).toNat none, H) := by unfold cutA; rw [if_pos hc]
theorem slc_0 {t : TypeId} {a : Option (Nat × Nat)} {len cap : Nat} {ex : Option Nat} (hc : len ≤ cap) : sliceR P t (some (.slice a len cap ex)) (some none) (some none) (some none) H = match elemS P t with | some s => slcR s a cap ex false 0 len cap H | none => none := by
  cases hs : elemS P t with
  | some s => exact sliceR_slice hs rfl rfl rfl hc (by simp)
  | none => unfold elemS at hs; unfold sliceR; simp only [sliceSem]; split at hs <;> simp_all

/-! ## elements by value -/
def indexR (P : Program) (t : TypeId) : Option AV → Option AV → Heap → Option (AV × Heap)
  | some a, some b, H => match indexSem P t a b with
    | some v => some (v, H)
    | none => none
  | _, _, _ => none
theorem opR_index (t : TypeId) (x y : Operand) : opR P N e (.index t x y) H = indexR P t (ev P (tab N e) x) (ev P (tab N e) y) H := by
  simp only [opR_eq, sem]
  cases ev P (tab N e) x with
  | none => cases ev P (tab N e) y <;> rfl
  | some a => cases ev P (tab N e) y with
    | none => rfl
    | some b => simp only [indexR]; cases indexSem P t a b <;> rfl
def indexX (P : Program) (t : TypeId) (a b : AV) (H : Heap) : Option (AV × Heap) := indexR P t (some a) (some b) H
def byteAt (x : List UInt8) (i : Int) (H : Heap) : Option (AV × Heap) := if 0 ≤ i ∧ i < x.length then some (.int .u8 (x.getD i.toNat 0).toNat, H) else none
theorem indexR_str {t : TypeId} {x : List UInt8} {k : IntKind} {i : Int} : indexR P t (some (.str x)) (some (.int k i)) H = if isStrT P t then byteAt x i H else indexX P t (.str x) (.int k i) H := by
  by_cases h : isStrT P t = true
  · rw [if_pos h]
    have hu := isStrT_of h
    simp only [indexR, indexSem, hu, byteAt]
    by_cases h0 : 0 ≤ i
    · rw [if_pos h0]
      by_cases h1 : i < x.length
      · rw [if_pos ⟨h0, h1⟩]
        have : x[i.toNat]? = some (x[i.toNat]'(by omega)) := List.getElem?_eq_getElem (by omega)
        rw [this]
        simp [List.getD, this]
      · rw [if_neg (by omega)]
        rw [List.getElem?_eq_none (by omega)]
    · rw [if_neg h0, if_neg (by omega)]
  · rw [if_neg h]; rfl
theorem byteAt_ok {x : List UInt8} {i : Int} (h : 0 ≤ i ∧ i < x.length) : byteAt x i H = some (.int .u8 (x.getD i.toNat 0).toNat, H) := by unfold byteAt; rw [if_pos h]
theorem indexR_arr {t : TypeId} {cs : List AV} {k : IntKind} {i : Int} : indexR P t (some (.agg cs)) (some (.int k i)) H = match P.underlying t with
    | some (.array len elem) => (match tsz P elem with
      | some size => if 0 ≤ i ∧ i < len then (match partA P elem cs (i.toNat * size) with | some v => some (v, H) | none => none) else none
      | none => none)
    | _ => none := by
  simp only [indexR, indexSem]
  cases P.underlying t with
  | none => rfl
  | some d =>
    cases d with
    | array len elem =>
      simp only []
      cases tsz P elem with
      | none => rfl
      | some s =>
        simp only []
        by_cases h : 0 ≤ i ∧ i < len
        · rw [if_pos h, if_pos h]
        · rw [if_neg h, if_neg h]
    | _ => rfl

/-! ## a field by value -/
def fieldR (P : Program) (t : TypeId) (f : Nat) : Option AV → Heap → Option (AV × Heap)
  | some (.agg cs), H => match P.underlying t with
    | some (.struct fields) => (match fields[f]? with
      | some fd => (match partA P fd.type cs fd.offset with | some v => some (v, H) | none => none)
      | none => none)
    | _ => none
  | _, _ => none
theorem opR_field (t : TypeId) (x : Operand) (f : Nat) : opR P N e (.field t x f) H = fieldR P t f (ev P (tab N e) x) H := by
  simp only [opR_eq, sem]
  cases hu : P.underlying t with
  | none => cases ev P (tab N e) x with
    | none => rfl
    | some v => cases v <;> simp [fieldR, hu]
  | some d =>
    cases d with
    | struct fields =>
      cases ev P (tab N e) x with
      | none => rfl
      | some v =>
        cases v with
        | agg cs =>
          simp only [fieldR, hu]
          cases fields[f]? with
          | none => rfl
          | some fd => simp only []; cases partA P fd.type cs fd.offset <;> rfl
        | _ => simp [fieldR]
    | _ =>
      cases ev P (tab N e) x with
      | none => rfl
      | some v => cases v <;> simp [fieldR, hu]
theorem fieldR_agg {t : TypeId} {f : Nat} {cs : List AV} : fieldR P t f (some (.agg cs)) H = match P.underlying t with
    | some (.struct fields) => (match fields[f]? with
      | some fd => (match partA P fd.type cs fd.offset with | some v => some (v, H) | none => none)
      | none => none)
    | _ => none := rfl
theorem partA_eq (t : TypeId) (cs : List AV) (off : Nat) : partA P t cs off = match tagg P t, tsz P t with
  | some true, some n => if off + n ≤ cs.length then some (.agg ((cs.drop off).take n)) else none
  | some false, _ => cs[off]?
  | _, _ => none := rfl

/-! ## what is made -/
def mapT (P : Program) (t : TypeId) : Bool := match P.underlying t with | some (.map _ _) => true | _ => false
theorem opR_makeMap {t : TypeId} : opR P N e (.makeMap t none) H = if mapT P t then some (.map (some H.next), H.push (.map [])) else none := by
  by_cases h : ∃ k u, P.underlying t = some (.map k u)
  · obtain ⟨k, u, hu⟩ := h
    simp [opR_eq, sem, mapT, hu, Sm.run]
  · have hm : mapT P t = false := by
      unfold mapT
      split
      · exact absurd ⟨_, _, by assumption⟩ h
      · rfl
    have hn : sem P noCall (tab N e) (.makeMap t none) = none := by
      simp only [sem]
      split
      · exact absurd ⟨_, _, by assumption⟩ h
      · exact absurd ⟨_, _, by assumption⟩ h
      · rfl
    simp [opR_eq, hn, hm]
def makeSliceR (P : Program) (t : TypeId) : Option AV → Option AV → Heap → Option (AV × Heap)
  | some a, some b, H => match makeSliceSem P t a b with
    | some s => s.run H
    | none => none
  | _, _, _ => none
theorem opR_makeSlice (t : TypeId) (x y : Operand) : opR P N e (.makeSlice t x y) H = makeSliceR P t (ev P (tab N e) x) (ev P (tab N e) y) H := by
  simp only [opR_eq, sem]
  cases ev P (tab N e) x with
  | none => cases ev P (tab N e) y <;> rfl
  | some a => cases ev P (tab N e) y <;> rfl
/-- what making elements of a type wants: its type, bytes, cells, zero -/
def elemF (P : Program) (t : TypeId) : Option (TypeId × Nat × Nat × List AV) := match P.underlying t with
  | some (.slice u) => (match tbytes P u, tsz P u, tzero P u with
    | some bytes, some size, some z => if z.cells.length = size then some (u, bytes, size, z.cells) else none
    | _, _, _ => none)
  | _ => none
theorem makeSliceR_eq {t : TypeId} {k j : IntKind} {l c : Int} {u : TypeId} {bytes size : Nat} {z : List AV} (hf : elemF P t = some (u, bytes, size, z)) (h : 0 ≤ l ∧ l ≤ c ∧ c ≤ 2 ^ 47 ∧ bytes * c ≤ 2 ^ 48) :
    makeSliceR P t (some (.int k l)) (some (.int j c)) H = some (.slice (some (H.next, 0)) l.toNat c.toNat none, H.push (.cells (zeros z c.toNat) u true false)) := by
  unfold elemF at hf
  split at hf
  · rename_i u' hu
    split at hf
    · rename_i b' s' z' h1 h2 h3
      split at hf
      · rename_i hz
        injection hf with hf
        simp only [Prod.mk.injEq] at hf
        obtain ⟨rfl, rfl, rfl, rfl⟩ := hf
        simp only [makeSliceR, makeSliceSem, hu, h1, h2, h3]
        rw [if_pos ⟨h.1, h.2.1, h.2.2.1, h.2.2.2, hz⟩]
        rfl
      · cases hf
    · cases hf
  · cases hf

def makeFuncR (fn : Fn) : Option (List AV) → Option (List AV) → Heap → Option (AV × Heap)
  | some a, some b, H => some (.func fn a b, H)
  | _, _, _ => none
theorem opR_makeFunc (fn : Fn) (first captured : Array Operand) : opR P N e (.makeFunc fn first captured) H = makeFuncR fn (mapOpt (ev P (tab N e)) first.toList) (mapOpt (ev P (tab N e)) captured.toList) H := by
  simp only [opR_eq, sem]
  cases mapOpt (ev P (tab N e)) first.toList <;> cases mapOpt (ev P (tab N e)) captured.toList <;> rfl
theorem makeFuncR_some (fn : Fn) (a b : List AV) : makeFuncR fn (some a) (some b) H = some (.func fn a b, H) := rfl

/-! ## maps by whole numbers -/
def imap (k : IntKind) (l : List (Int × AV)) : List (AV × AV) := l.map fun p => (.int k p.1, p.2)
def iget {α : Type} (n : Int) : List (Int × α) → Option α
  | [] => none
  | (x, v) :: r => if x = n then some v else iget n r
def iset {α : Type} (n : Int) (v : α) : List (Int × α) → List (Int × α)
  | [] => [(n, v)]
  | (x, u) :: r => if x = n then (n, v) :: r else (x, u) :: iset n v r
def idel {α : Type} (n : Int) : List (Int × α) → List (Int × α)
  | [] => []
  | (x, u) :: r => if x = n then r else (x, u) :: idel n r
/-- No key stands twice. -/
def ionce {α : Type} : List (Int × α) → Prop
  | [] => True
  | (x, _) :: r => iget x r = none ∧ ionce r
section
variable {α : Type}
theorem iget_iset {k x : Int} {v : α} : ∀ {l : List (Int × α)}, iget x (iset k v l) = if k = x then some v else iget x l
  | [] => by simp [iset, iget]
  | (y, u) :: r => by
    by_cases e : y = k
    · subst e
      by_cases e2 : y = x
      · simp [iset, iget, e2]
      · simp [iset, iget, e2]
    · simp only [iset, if_neg e, iget]
      rw [iget_iset]
      by_cases e2 : y = x
      · subst e2
        rw [if_pos rfl, if_neg (fun h => e h.symm), if_pos rfl]
      · rw [if_neg e2, if_neg e2]
theorem iget_idel {k x : Int} : ∀ {l : List (Int × α)}, ionce l → iget x (idel k l) = if k = x then none else iget x l
  | [], _ => by simp [idel, iget]
  | (y, u) :: r, h => by
    by_cases e : y = k
    · subst e
      simp only [idel, if_true, iget]
      by_cases e2 : y = x
      · subst e2; simp [h.1]
      · simp [e2]
    · simp only [idel, if_neg e, iget]
      rw [iget_idel h.2]
      by_cases e2 : y = x
      · subst e2
        rw [if_pos rfl, if_neg (fun h => e h.symm), if_pos rfl]
      · rw [if_neg e2, if_neg e2]
theorem ionce_iset {k : Int} {v : α} : ∀ {l : List (Int × α)}, ionce l → ionce (iset k v l)
  | [], _ => by simp [iset, ionce, iget]
  | (y, u) :: r, h => by
    by_cases e : y = k
    · subst e; simp only [iset, if_true, ionce]; exact h
    · simp only [iset, if_neg e, ionce]
      refine ⟨?_, ionce_iset h.2⟩
      rw [iget_iset, if_neg (fun h => e h.symm)]
      exact h.1
theorem ionce_idel {k : Int} : ∀ {l : List (Int × α)}, ionce l → ionce (idel k l)
  | [], _ => trivial
  | (y, u) :: r, h => by
    by_cases e : y = k
    · simp only [idel, if_pos e]; exact h.2
    · simp only [idel, if_neg e, ionce]
      refine ⟨?_, ionce_idel h.2⟩
      rw [iget_idel h.2]
      split
      · rfl
      · exact h.1
theorem iset_len {k : Int} {v : α} : ∀ {l : List (Int × α)}, (iset k v l).length = if (iget k l).isSome then l.length else l.length + 1
  | [] => rfl
  | (y, u) :: r => by
    by_cases e : y = k
    · simp [iset, iget, e]
    · simp only [iset, if_neg e, iget, List.length_cons]
      rw [iset_len]
      split <;> rfl
theorem idel_len {k : Int} : ∀ {l : List (Int × α)}, (idel k l).length = if (iget k l).isSome then l.length - 1 else l.length
  | [] => rfl
  | (y, u) :: r => by
    by_cases e : y = k
    · simp [idel, iget, e]
    · simp only [idel, if_neg e, iget, List.length_cons]
      rw [idel_len]
      cases h : iget k r with
      | none => simp
      | some v =>
        simp
        cases r with
        | nil => simp [iget] at h
        | cons _ _ => simp
theorem iget_mem {k : Int} {v : α} : ∀ {l : List (Int × α)}, iget k l = some v → (k, v) ∈ l
  | (y, u) :: r, h => by
    by_cases e : y = k
    · simp [iget, e] at h; subst e; subst h; simp
    · simp only [iget, if_neg e] at h; exact List.mem_cons_of_mem _ (iget_mem h)
theorem mem_iget {k : Int} {v : α} : ∀ {l : List (Int × α)}, ionce l → (k, v) ∈ l → iget k l = some v
  | (y, u) :: r, h, hm => by
    simp only [List.mem_cons, Prod.mk.injEq] at hm
    rcases hm with ⟨rfl, rfl⟩ | hm
    · simp [iget]
    · have h2 := mem_iget h.2 hm
      by_cases e : y = k
      · subst e; rw [h.1] at h2; cases h2
      · simp only [iget, if_neg e]; exact h2
theorem mem_iset {k x : Int} {v u : α} : ∀ {l : List (Int × α)}, (x, u) ∈ iset k v l → (x = k ∧ u = v) ∨ (x, u) ∈ l
  | [], h => by simp [iset] at h; exact .inl h
  | (y, w) :: r, h => by
    by_cases e : y = k
    · simp only [iset, if_pos e, List.mem_cons, Prod.mk.injEq] at h ⊢
      rcases h with h | h
      · exact .inl h
      · exact .inr (.inr h)
    · simp only [iset, if_neg e, List.mem_cons] at h ⊢
      rcases h with h | h
      · exact .inr (.inl h)
      · rcases mem_iset h with h | h
        · exact .inl h
        · exact .inr (.inr h)
theorem mem_idel {k : Int} {p : Int × α} : ∀ {l : List (Int × α)}, p ∈ idel k l → p ∈ l
  | (y, w) :: r, h => by
    by_cases e : y = k
    · simp only [idel, if_pos e] at h; exact List.mem_cons_of_mem _ h
    · simp only [idel, if_neg e, List.mem_cons] at h ⊢
      rcases h with h | h
      · exact .inl h
      · exact .inr (mem_idel h)
/-- The values told in another way. -/
def pm {β : Type} (f : α → β) (l : List (Int × α)) : List (Int × β) := l.map fun p => (p.1, f p.2)
theorem iget_pm {β : Type} (f : α → β) (n : Int) : ∀ l : List (Int × α), iget n (pm f l) = (iget n l).map f
  | [] => rfl
  | (x, v) :: r => by
    by_cases h : x = n
    · simp [pm, iget, h]
    · simp only [pm, List.map_cons, iget, if_neg h]; exact iget_pm f n r
theorem iset_pm {β : Type} (f : α → β) (n : Int) (v : α) : ∀ l : List (Int × α), iset n (f v) (pm f l) = pm f (iset n v l)
  | [] => rfl
  | (x, u) :: r => by
    by_cases h : x = n
    · simp [pm, iset, h]
    · simp only [pm, List.map_cons, iset, if_neg h]; rw [← pm, iset_pm f n v r]; rfl
theorem idel_pm {β : Type} (f : α → β) (n : Int) : ∀ l : List (Int × α), idel n (pm f l) = pm f (idel n l)
  | [] => rfl
  | (x, u) :: r => by
    by_cases h : x = n
    · simp [pm, idel, h]
    · simp only [pm, List.map_cons, idel, if_neg h]; rw [← pm, idel_pm f n r]; rfl
theorem pm_len {β : Type} (f : α → β) (l : List (Int × α)) : (pm f l).length = l.length := by simp [pm]
theorem pm_nil {β : Type} (f : α → β) : pm f [] = [] := rfl
end
/-- A pointer to a block. -/
def ptrTo (b : Nat) : AV := .ptr (some (b, 0))
theorem ptrTo_getD (o : Option Nat) : (o.map ptrTo).getD (.ptr none) = .ptr (o.map fun b => (b, 0)) := by cases o <;> rfl
theorem imap_len (k : IntKind) (l : List (Int × AV)) : (imap k l).length = l.length := by simp [imap]
theorem imap_nil (k : IntKind) : imap k [] = [] := rfl
theorem imap_keys (k : IntKind) (l : List (Int × AV)) : intKeys k (imap k l) := by
  intro p hp
  simp only [imap, List.mem_map] at hp
  obtain ⟨q, _, rfl⟩ := hp
  exact ⟨q.1, rfl⟩
theorem getA_imap (k : IntKind) (n : Int) : ∀ l : List (Int × AV), getA (.int k n) (imap k l) = iget n l
  | [] => rfl
  | (x, v) :: r => by
    have ih := getA_imap k n r
    by_cases h : x = n
    · subst h; simp [imap, getA, iget]
    · have : ¬ (AV.int k x = AV.int k n) := by intro e; injection e with _ e; exact h e
      simp only [imap, List.map_cons, getA, if_neg this, iget, if_neg h]
      exact ih
theorem setA_imap (k : IntKind) (n : Int) (v : AV) : ∀ l : List (Int × AV), setA (.int k n) v (imap k l) = imap k (iset n v l)
  | [] => rfl
  | (x, u) :: r => by
    have ih := setA_imap k n v r
    by_cases h : x = n
    · subst h; simp [imap, setA, iset]
    · have : ¬ (AV.int k x = AV.int k n) := by intro e; injection e with _ e; exact h e
      simp only [imap, List.map_cons, setA, if_neg this, iset, if_neg h]
      rw [← imap, ih]; rfl
theorem delA_imap (k : IntKind) (n : Int) : ∀ l : List (Int × AV), delA (.int k n) (imap k l) = imap k (idel n l)
  | [] => rfl
  | (x, u) :: r => by
    have ih := delA_imap k n r
    by_cases h : x = n
    · subst h; simp [imap, delA, idel]
    · have : ¬ (AV.int k x = AV.int k n) := by intro e; injection e with _ e; exact h e
      simp only [imap, List.map_cons, delA, if_neg this, idel, if_neg h]
      rw [← imap, ih]; rfl
theorem like_imap (k : IntKind) (n : Int) (l : List (Int × AV)) : keysLike (.int k n) (imap k l) := .inl ⟨k, n, rfl, imap_keys k l⟩

def lookX (P : Program) (t : TypeId) (a b : AV) (ok : Bool) (H : Heap) : Option (AV × Heap) := lookupR P t ok (some a) (some b) H
/-- the map that a block bears, by whole numbers of a kind -/
def asI (k : IntKind) : Option AObj → Option (List (AV × AV))
  | some (.map es) => some es
  | _ => none
def lookI (ok : Bool) (z : AV) (n : Int) (k : IntKind) (es : List (AV × AV)) (H : Heap) : Option (AV × Heap) := match findA (.int k n) es 0 with
  | some (some (_, v)) => some (if ok then .tuple [v, .bool true] else v, H)
  | some none => some (if ok then .tuple [z, .bool false] else z, H)
  | none => none
theorem lookupR_int {t : TypeId} {r : Nat} {k : IntKind} {n : Int} {ok : Bool} : lookupR P t ok (some (.map (some r))) (some (.int k n)) H =
    match keyT P t with
    | some (kt, et) => (match intT P kt, tzero P et, H.get r with
      | some _, some z, some (.map es) => lookI ok z n k es H
      | some _, some z, _ => none
      | _, _, _ => lookX P t (.map (some r)) (.int k n) ok H)
    | none => none := by
  unfold keyT
  cases hu : P.underlying t with
  | none => simp [lookupR, lookupSem, hu]
  | some d =>
    cases d with
    | map kt et =>
      simp only []
      cases hk : intT P kt with
      | none => rfl
      | some k' =>
        cases hz : tzero P et with
        | none => rfl
        | some z =>
          have hf : keyFits P kt (.int k n) = true := by
            unfold intT at hk
            unfold keyFits
            split at hk
            · rename_i h; simp only [h]
            · cases hk
          simp only [lookupR, lookupSem, hu, hf, if_true, hz, Sm.run, mapOpt]
          cases H.get r with
          | none => rfl
          | some o =>
            cases o with
            | map es =>
              simp only [lookI]
              cases findA (.int k n) es 0 with
              | none => rfl
              | some q => cases q <;> rfl
            | _ => rfl
    | _ => simp [lookupR, lookupSem, hu]
theorem lookI_one {z : AV} {n : Int} {k : IntKind} {l : List (Int × AV)} : lookI false z n k (imap k l) H = some ((iget n l).getD z, H) := by
  unfold lookI
  rcases findA_like (like_imap k n l) with ⟨h1, h2⟩ | ⟨j, v, h1, h2, _⟩
  · rw [getA_imap] at h1; simp [h2, h1]
  · rw [getA_imap] at h1; simp [h2, h1]
theorem lookI_two {z : AV} {n : Int} {k : IntKind} {l : List (Int × AV)} : lookI true z n k (imap k l) H = some (.tuple [(iget n l).getD z, .bool (iget n l).isSome], H) := by
  unfold lookI
  rcases findA_like (like_imap k n l) with ⟨h1, h2⟩ | ⟨j, v, h1, h2, _⟩
  · rw [getA_imap] at h1; simp [h2, h1]
  · rw [getA_imap] at h1; simp [h2, h1]
theorem lookupR_nil1 {t kt et : TypeId} {k : AV} : lookupR P t false (some (.map none)) (some k) H = match keyT P t with
    | some (kt, et) => if keyFits P kt k then (match tzero P et with | some z => some (z, H) | none => none) else none
    | none => none := by
  unfold keyT
  cases hu : P.underlying t with
  | none => simp [lookupR, lookupSem, hu]
  | some d =>
    cases d with
    | map kt et =>
      simp only [lookupR, lookupSem, hu]
      by_cases hf : keyFits P kt k = true
      · simp only [hf, if_true]; cases tzero P et <;> simp [Sm.run]
      · simp [hf]
    | _ => simp [lookupR, lookupSem, hu]

def updI (n : Int) (k : IntKind) (v : AV) (r : Nat) (es : List (AV × AV)) (H : Heap) : Option (AV × Heap) := match findA (.int k n) es 0 with
  | some (some (i, _)) => some (.undef, H.set r (.map (mapSet es i (.int k n) v)))
  | some none => some (.undef, H.set r (.map (es ++ [(.int k n, v)])))
  | none => none
theorem updateR_int {t : TypeId} {r : Nat} {k : IntKind} {n : Int} {v : AV} : updateR P t (some (.map (some r))) (some (.int k n)) (some v) H =
    match keyT P t with
    | some (kt, et) => (match intT P kt, H.get r with
      | some _, some (.map es) => updI n k v r es H
      | _, _ => none)
    | none => none := by
  unfold keyT
  cases hu : P.underlying t with
  | none => simp [updateR, updateSem, hu]
  | some d =>
    cases d with
    | map kt et =>
      simp only [updateR, updateSem, hu]
      have hf : keyFits P kt (.int k n) = (intT P kt).isSome := by
        unfold keyFits intT
        cases P.underlying kt with
        | none => rfl
        | some d => cases d <;> rfl
      rw [hf]
      cases hk : intT P kt with
      | none => simp
      | some k' =>
        simp only [Option.isSome_some, if_true, Sm.run]
        cases H.get r with
        | none => rfl
        | some o =>
          cases o with
          | map es =>
            simp only [updI]
            cases findA (.int k n) es 0 with
            | none => rfl
            | some q => cases q <;> rfl
          | _ => rfl
    | _ => simp [updateR, updateSem, hu]
theorem updI_eq {n : Int} {k : IntKind} {v : AV} {r : Nat} {l : List (Int × AV)} : updI n k v r (imap k l) H = some (.undef, H.set r (.map (imap k (iset n v l)))) := by
  unfold updI
  rw [← setA_imap]
  rcases findA_like (like_imap k n l) with ⟨h1, h2⟩ | ⟨j, u, h1, h2, h3⟩
  · simp only [h2, setA_none h1]
  · have := setA_some (v := v) h3
    simp only [Nat.sub_zero] at this
    simp only [h2, this, mapSet]
def delI (n : Int) (k : IntKind) (r : Nat) (es : List (AV × AV)) (H : Heap) : Option (AV × Heap) := match findA (.int k n) es 0 with
  | some (some (i, _)) => some (.undef, H.set r (.map (es.eraseIdx i)))
  | some none => some (.undef, H)
  | none => none
theorem deleteR_int {ts : Array TypeId} {r : Nat} {k : IntKind} {n : Int} : builtinR P .delete ts (some [.map (some r), .int k n]) H =
    match ts[0]? with
    | some t => (match keyT P t with
      | some (kt, et) => (match intT P kt, H.get r with
        | some _, some (.map es) => delI n k r es H
        | _, _ => none)
      | none => none)
    | none => none := by
  rw [builtinR_eq]
  simp only [builtinSem, deleteSem]
  cases ts[0]? with
  | none => rfl
  | some t =>
    simp only []
    unfold keyT
    cases hu : P.underlying t with
    | none => rfl
    | some d =>
      cases d with
      | map kt et =>
        simp only []
        have hf : keyFits P kt (.int k n) = (intT P kt).isSome := by
          unfold keyFits intT
          cases P.underlying kt with
          | none => rfl
          | some d => cases d <;> rfl
        rw [hf]
        cases hk : intT P kt with
        | none => simp
        | some k' =>
          simp only [Option.isSome_some, if_true, Sm.run]
          cases H.get r with
          | none => rfl
          | some o =>
            cases o with
            | map es =>
              simp only [delI]
              cases findA (.int k n) es 0 with
              | none => rfl
              | some q => cases q <;> rfl
            | _ => rfl
      | _ => rfl
/-- Nothing is written where there was no such key: told as a write all the same, if the block reads the same. -/
theorem delI_some {n : Int} {k : IntKind} {r : Nat} {l : List (Int × AV)} (h : (iget n l).isSome = true) : delI n k r (imap k l) H = some (.undef, H.set r (.map (imap k (idel n l)))) := by
  unfold delI
  rw [← delA_imap]
  rcases findA_like (like_imap k n l) with ⟨h1, h2⟩ | ⟨j, u, h1, h2, h3⟩
  · rw [getA_imap] at h1; rw [h1] at h; cases h
  · have := delA_some h3
    simp only [Nat.sub_zero] at this
    simp only [h2, this]
theorem delI_none {n : Int} {k : IntKind} {r : Nat} {l : List (Int × AV)} (h : iget n l = none) : delI n k r (imap k l) H = some (.undef, H) := by
  unfold delI
  rcases findA_like (like_imap k n l) with ⟨h1, h2⟩ | ⟨j, u, h1, h2, h3⟩
  · simp only [h2]
  · rw [getA_imap] at h1; rw [h1] at h; cases h

/-! ## copies -/
theorem copyR_eq {ts : Array TypeId} {base : Option (Nat × Nat)} {d c : Nat} {ex : Option Nat} {x : AV} : builtinR P .copy ts (some [.slice base d c ex, x]) H =
    match ts[0]? with
    | some t => (match elemS P t, srcLen x with
      | some size, some m => (match srcCells H size (Nat.min m d) x with
        | some cells => if cells.length ≠ Nat.min m d * size then none else
          match base with
          | none => some (.int .i64 (Nat.min m d : Nat), H)
          | some (b, o) => (match writeCells H b o cells with
            | some H' => some (.int .i64 (Nat.min m d : Nat), H')
            | none => none)
        | none => none)
      | _, _ => none)
    | none => none := by
  rw [builtinR_eq]
  simp only [builtinSem, copySem]
  cases ts[0]? with
  | none => rfl
  | some t =>
    simp only [elemS]
    cases P.underlying t with
    | none => rfl
    | some u =>
      cases u with
      | slice elem =>
        simp only []
        cases srcLen x with
        | none => cases tsz P elem <;> rfl
        | some m =>
          simp only []
          cases tsz P elem with
          | none => rfl
          | some size => rfl
      | _ => rfl

end
attribute [irreducible] sliceX cutS cutA indexR indexX byteAt fieldR makeSliceR makeFuncR lookX lookI updI delI
end Go.Abs
