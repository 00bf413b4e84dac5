/- Texts on the abstract machine, joined. -/
import Derived.Test.YtdndkchlkgldmaaKit06
import Derived.Test.YtdndkchlkgldmaaKit10
import Derived.Lib.Join

/- Ranges over texts, walked. -/
namespace Go.Abs
open Go.Proofs
set_option linter.unusedVariables false

theorem runeAt (s : List UInt8) (pos : Nat) (h : pos < s.length) : ∃ r w, Utf8.decode ⟨s.toArray⟩ pos = (r, w) ∧ 1 ≤ w ∧ pos + w ≤ s.length ∧ r ≤ 2147483647 ∧
    ((∃ c, s[pos]? = some c ∧ c.toNat < 128 ∧ r = c.toNat ∧ w = 1) ∨ (128 ≤ r ∧ ∀ j, pos ≤ j → j < pos + w → ∃ c, s[j]? = some c ∧ 128 ≤ c.toNat)) := by
  have hs : pos < (⟨s.toArray⟩ : ByteArray).size := by simpa [ByteArray.size] using h
  have hsz : (⟨s.toArray⟩ : ByteArray).size = s.length := by simp [ByteArray.size]
  have hg : ∀ (j : Nat) (hj : j < (⟨s.toArray⟩ : ByteArray).size), s[j]? = some ((⟨s.toArray⟩ : ByteArray)[j]'hj) := fun j hj => by
    have hj' : j < s.length := by rw [← hsz]; exact hj
    rw [List.getElem?_eq_getElem hj']
    rfl
  by_cases ha : ((⟨s.toArray⟩ : ByteArray)[pos]'hs).toNat < 128
  · have hd := decode_ascii ⟨s.toArray⟩ pos hs ha
    exact ⟨_, _, hd, Nat.le_refl _, by omega, by omega, .inl ⟨_, hg pos hs, ha, rfl, rfl⟩⟩
  · have h1 := decode_high ⟨s.toArray⟩ pos hs (by omega)
    have h2 := decode_skip ⟨s.toArray⟩ pos hs (by omega)
    have h3 := decode_le ⟨s.toArray⟩ pos
    obtain ⟨⟨r, w⟩, hd⟩ : ∃ d, d = Utf8.decode ⟨s.toArray⟩ pos := ⟨_, rfl⟩
    rw [← hd] at h1 h2 h3
    have h4 : pos + w ≤ (⟨s.toArray⟩ : ByteArray).size := h2.2.1
    exact ⟨r, w, hd.symm, h1.2, by rw [← hsz]; exact h4, h3, .inr ⟨h1.1, fun j h5 h6 => ⟨_, hg j (by omega), h2.2.2 j (by omega) h5 h6⟩⟩⟩
section
variable {P : Program} {N : Nat} {e : Nat → AV} {H : Heap}
def rangeR (b : Bool) : Option AV → Heap → Option (AV × Heap)
  | some (.str s), H => if b then some (.ptr (some (H.next, 0)), H.push (.iter s 0)) else none
  | _, _ => none
def strT (P : Program) (t : TypeId) : Bool := match P.underlying t with | some .string => true | _ => false
theorem opR_range {t : TypeId} {x : Operand} : opR P N e (.range t x) H = rangeR (strT P t) (ev P (tab N e) x) H := by
  simp only [opR_eq, sem, strT]
  cases ev P (tab N e) x with
  | none => cases P.underlying t with
    | none => rfl
    | some u => cases u <;> rfl
  | some v => cases v <;> cases P.underlying t with
    | none => rfl
    | some u => cases u <;> rfl
@[simp] theorem rangeR_str {s : List UInt8} : rangeR true (some (.str s)) H = some (.ptr (some (H.next, 0)), H.push (.iter s 0)) := rfl
def nextR : Option AV → Heap → Option (AV × Heap)
  | some (.ptr (some (b, 0))), H => match H.get b with
    | some (.iter s pos) => if pos < s.length then some (.tuple [.bool true, .int .i64 pos, .int .i32 (Utf8.decode ⟨s.toArray⟩ pos).1], H.set b (.iter s (pos + (Utf8.decode ⟨s.toArray⟩ pos).2))) else some (.tuple [.bool false], H)
    | _ => none
  | _, _ => none
theorem opR_next {x : Operand} : opR P N e (.next x true) H = nextR (ev P (tab N e) x) H := by
  simp only [opR_eq, sem]
  cases ev P (tab N e) x with
  | none => rfl
  | some v =>
    cases v with
    | ptr o =>
      cases o with
      | none => rfl
      | some a =>
        obtain ⟨b, o⟩ := a
        cases o with
        | zero =>
          simp only [nextR, Sm.run]
          cases H.get b with
          | none => rfl
          | some o => cases o <;> rfl
        | succ n => rfl
    | _ => rfl
theorem nextR_more {b : Nat} {s : List UInt8} {pos r w : Nat} (hg : H.get b = some (.iter s pos)) (hl : pos < s.length) (hd : Utf8.decode ⟨s.toArray⟩ pos = (r, w)) :
    nextR (some (.ptr (some (b, 0)))) H = some (.tuple [.bool true, .int .i64 pos, .int .i32 r], H.set b (.iter s (pos + w))) := by
  simp only [nextR, hg, hl, if_true, hd]
theorem nextR_end {b : Nat} {s : List UInt8} {pos : Nat} (hg : H.get b = some (.iter s pos)) (hl : ¬ pos < s.length) : nextR (some (.ptr (some (b, 0)))) H = some (.tuple [.bool false], H) := by
  simp only [nextR, hg, if_neg hl]
end
attribute [simp] opR_range opR_next
end Go.Abs

/- The parts of a text between slashes. -/
namespace Go.Abs
set_option linter.unusedVariables false

abbrev T8 := List UInt8
def partsFrom (cur : T8) : T8 → List T8
  | [] => if cur = [] then [] else [cur]
  | c :: r => if c = 47 then (if cur = [] then partsFrom [] r else cur :: partsFrom [] r) else partsFrom (cur ++ [c]) r
def partsOf (s : T8) : List T8 := partsFrom [] s
theorem partsFrom_word {w : T8} (h : ∀ c ∈ w, c ≠ 47) : ∀ (cur r : T8), partsFrom cur (w ++ r) = partsFrom (cur ++ w) r := by
  induction w with
  | nil => intro cur r; simp
  | cons c w ih =>
    intro cur r
    rw [List.cons_append, partsFrom, if_neg (h c (by simp)), ih (fun x hx => h x (List.mem_cons_of_mem _ hx))]
    simp
theorem partsFrom_slash (cur r : T8) : partsFrom cur (47 :: r) = (if cur = [] then [] else [cur]) ++ partsFrom [] r := by
  rw [partsFrom, if_pos rfl]
  split <;> simp
theorem partsFrom_nil (cur : T8) : partsFrom cur [] = if cur = [] then [] else [cur] := rfl
theorem partsFrom_good : ∀ (s cur : T8), (∀ c ∈ cur, c ≠ 47) → ∀ x ∈ partsFrom cur s, x ≠ [] ∧ (∀ c ∈ x, c ≠ 47) ∧ ∀ c ∈ x, c ∈ cur ∨ c ∈ s
  | [], cur, hc, x, hx => by
    rw [partsFrom_nil] at hx
    split at hx
    · cases hx
    · rename_i h
      simp only [List.mem_singleton] at hx
      subst hx
      exact ⟨h, hc, fun c h => .inl h⟩
  | c :: r, cur, hc, x, hx => by
    rw [partsFrom] at hx
    split at hx
    · split at hx
      · obtain ⟨h1, h2, h3⟩ := partsFrom_good r [] (by simp) x hx
        exact ⟨h1, h2, fun d hd => .inr (by rcases h3 d hd with h | h; cases h; exact List.mem_cons_of_mem _ h)⟩
      · rename_i hne
        rcases List.mem_cons.1 hx with rfl | hx
        · exact ⟨hne, hc, fun d hd => .inl hd⟩
        · obtain ⟨h1, h2, h3⟩ := partsFrom_good r [] (by simp) x hx
          exact ⟨h1, h2, fun d hd => .inr (by rcases h3 d hd with h | h; cases h; exact List.mem_cons_of_mem _ h)⟩
    · rename_i hne
      obtain ⟨h1, h2, h3⟩ := partsFrom_good r (cur ++ [c]) (by intro d hd; rcases List.mem_append.1 hd with h | h; exact hc d h; simp at h; subst h; exact hne) x hx
      refine ⟨h1, h2, fun d hd => ?_⟩
      rcases h3 d hd with h | h
      · rcases List.mem_append.1 h with h | h
        · exact .inl h
        · simp at h; subst h; exact .inr (by simp)
      · exact .inr (List.mem_cons_of_mem _ h)
theorem partsFrom_len : ∀ (s cur : T8), (partsFrom cur s).length ≤ s.length + (if cur = [] then 0 else 1)
  | [], cur => by rw [partsFrom_nil]; split <;> simp
  | c :: r, cur => by
    rw [partsFrom]
    split
    · have := partsFrom_len r []
      simp at this
      split
      · simp; omega
      · simp; omega
    · have := partsFrom_len r (cur ++ [c])
      simp at this
      simp
      split <;> omega
theorem join_cons {x y : T8} {l : List T8} : Lib.join (x :: y :: l) [47] = x ++ (47 :: Lib.join (y :: l) [47]) := by
  simp [Lib.join, List.intercalate, List.intersperse]
theorem partsFrom_join : ∀ (l : List T8) (t : T8), (∀ x ∈ l, x ≠ [] ∧ ∀ c ∈ x, c ≠ 47) → l ≠ [] → (t = [] ∨ t = [47]) → partsFrom [] (Lib.join l [47] ++ t) = l
  | [], t, _, h, _ => absurd rfl h
  | [x], t, hl, _, ht => by
    have hx := hl x (by simp)
    have e : Lib.join [x] [47] = x := by simp [Lib.join, List.intercalate, List.intersperse]
    rw [e, partsFrom_word hx.2, List.nil_append]
    rcases ht with rfl | rfl
    · rw [partsFrom_nil, if_neg hx.1]
    · rw [partsFrom_slash, if_neg hx.1, partsFrom_nil]
      simp
  | x :: y :: l, t, hl, _, ht => by
    have hx := hl x (by simp)
    rw [join_cons, List.append_assoc, partsFrom_word hx.2, List.nil_append, List.cons_append, partsFrom_slash, if_neg hx.1, partsFrom_join (y :: l) t (fun z hz => hl z (List.mem_cons_of_mem _ hz)) (by simp) ht]
    simp
/-- What a text's path is: from its root, of a directory, its parts. -/
def pathT (s : T8) : Bool × Bool × List T8 := (s.head? == some 47, decide (partsOf s ≠ []) && (s.getLast? == some 47), partsOf s)
def showT3 (a d : Bool) (l : List T8) : T8 := (if a then [47] else []) ++ (Lib.join l [47] ++ if d = true ∧ l ≠ [] then [47] else [])
theorem join_head {l : List T8} (hl : ∀ x ∈ l, x ≠ [] ∧ ∀ c ∈ x, c ≠ 47) (h : l ≠ []) (t : T8) : ∃ c, (Lib.join l [47] ++ t).head? = some c ∧ c ≠ 47 := by
  cases l with
  | nil => exact absurd rfl h
  | cons x l =>
    have hx := hl x (by simp)
    cases x with
    | nil => exact absurd rfl hx.1
    | cons c x =>
      refine ⟨c, ?_, hx.2 c (by simp)⟩
      cases l with
      | nil => simp [Lib.join, List.intercalate, List.intersperse]
      | cons y l => rw [join_cons]; simp
theorem join_last : ∀ {l : List T8}, (∀ x ∈ l, x ≠ [] ∧ ∀ c ∈ x, c ≠ 47) → l ≠ [] → ∃ c, (Lib.join l [47]).getLast? = some c ∧ c ≠ 47
  | [], _, h => absurd rfl h
  | [x], hl, _ => by
    have hx := hl x (by simp)
    have e : Lib.join [x] [47] = x := by simp [Lib.join, List.intercalate, List.intersperse]
    rw [e]
    obtain ⟨c, hc⟩ : ∃ c, x.getLast? = some c := by
      cases h : x.getLast? with
      | none => exact absurd (List.getLast?_eq_none_iff.1 h) hx.1
      | some c => exact ⟨c, rfl⟩
    exact ⟨c, hc, hx.2 c (List.mem_of_getLast? hc)⟩
  | x :: y :: l, hl, _ => by
    obtain ⟨c, hc, hn⟩ := join_last (l := y :: l) (fun z hz => hl z (List.mem_cons_of_mem _ hz)) (by simp)
    refine ⟨c, ?_, hn⟩
    rw [join_cons, List.getLast?_append, List.getLast?_cons, hc]
    simp
/-- A path is read again from its text. -/
theorem pathT_show (s : T8) (hs : s ≠ []) : pathT (showT3 (pathT s).1 (pathT s).2.1 (pathT s).2.2) = pathT s := by
  have hg : ∀ x ∈ partsOf s, x ≠ [] ∧ ∀ c ∈ x, c ≠ 47 := fun x hx => by
    have := partsFrom_good s [] (by simp) x hx
    exact ⟨this.1, this.2.1⟩
  unfold pathT
  simp only []
  generalize hl : partsOf s = l at *
  by_cases h0 : l = []
  · subst h0
    cases hh : s.head? == some 47 with
    | true => rfl
    | false =>
      exfalso
      cases s with
      | nil => exact hs rfl
      | cons c r =>
        simp at hh
        unfold partsOf at hl
        rw [partsFrom, if_neg hh] at hl
        have : ∀ (r cur : T8), cur ≠ [] → partsFrom cur r ≠ [] := by
          intro r
          induction r with
          | nil => intro cur hc; rw [partsFrom_nil, if_neg hc]; simp
          | cons d r ih =>
            intro cur hc
            rw [partsFrom]
            split
            · simp
            · exact ih _ (by simp)
        exact this r _ (by simp) hl
  · rw [decide_eq_true h0, Bool.true_and]
    generalize (s.head? == some 47) = a
    generalize (s.getLast? == some 47) = d
    have hp : partsOf (showT3 a d l) = l := by
      unfold showT3 partsOf
      have := partsFrom_join l (if d = true ∧ l ≠ [] then [47] else []) hg h0 (by split <;> simp)
      cases a with
      | true => simp only [if_true, List.singleton_append]; rw [partsFrom_slash, this]; rfl
      | false => simpa using this
    rw [hp, decide_eq_true h0, Bool.true_and]
    obtain ⟨c, hc, hc'⟩ := join_head hg h0 (if d = true ∧ l ≠ [] then [47] else [])
    obtain ⟨z, hz, hz'⟩ := join_last hg h0
    have e1 : ((showT3 a d l).head? == some 47) = a := by
      unfold showT3
      cases a with
      | true => rfl
      | false => simp only [Bool.false_eq_true, if_false, List.nil_append]; rw [hc]; simpa using hc'
    have e2 : ((showT3 a d l).getLast? == some 47) = d := by
      unfold showT3
      rw [List.getLast?_append, List.getLast?_append, hz]
      cases d with
      | true => simp [h0]
      | false => simpa using hz'
    rw [e1, e2]
theorem join_one (x : T8) : Lib.join [x] [47] = x := by simp [Lib.join, List.intercalate, List.intersperse]
theorem last_cons {c : UInt8} {r : T8} (h : r ≠ []) : (c :: r).getLast? = r.getLast? := by
  cases r with
  | nil => exact absurd rfl h
  | cons d r => rw [List.getLast?_cons_cons]
theorem partsFrom_size : ∀ (s cur : T8), (Lib.join (partsFrom cur s) [47]).length + (if s.getLast? = some 47 ∧ partsFrom cur s ≠ [] then 1 else 0) ≤ cur.length + s.length
  | [], cur => by
    simp only [List.getLast?_nil, reduceCtorEq, false_and, if_false, partsFrom_nil]
    by_cases hc : cur = []
    · rw [if_pos hc]; simp [Lib.join]
    · rw [if_neg hc, join_one]; simp
  | c :: r, cur => by
    rw [partsFrom]
    split
    · rename_i hc
      have ih := partsFrom_size r []
      have hlast : partsFrom [] r ≠ [] → (c :: r).getLast? = r.getLast? := fun h => last_cons (by rintro rfl; exact h rfl)
      split
      · rename_i h0
        by_cases hp : partsFrom [] r = []
        · rw [hp] at ih ⊢
          simp [Lib.join]
        · rw [hlast hp]
          subst h0
          simp only [List.length_nil, List.length_cons] at ih ⊢
          omega
      · by_cases hp : partsFrom [] r = []
        · rw [hp, join_one]
          simp only [List.length_cons]
          split <;> omega
        · rw [hlast hp]
          generalize partsFrom [] r = P at *
          cases P with
          | nil => exact absurd rfl hp
          | cons y l =>
            rw [join_cons]
            simp only [List.length_append, List.length_cons, List.length_nil, ne_eq, reduceCtorEq, not_false_eq_true, and_true] at ih ⊢
            split at ih <;> rename_i h <;> simp only [h, if_true, if_false] <;> omega
    · rename_i hc
      have ih := partsFrom_size r (cur ++ [c])
      by_cases hr : r = []
      · subst hr
        rw [if_neg (by simp; intro h; exact absurd h hc)]
        simp only [List.length_append, List.length_cons, List.length_nil] at ih ⊢
        omega
      · rw [last_cons hr]
        simp only [List.length_append, List.length_cons, List.length_nil] at ih ⊢
        omega
theorem show_size (s : T8) : (showT3 (pathT s).1 (pathT s).2.1 (pathT s).2.2).length ≤ s.length := by
  unfold pathT showT3
  simp only []
  cases s with
  | nil => simp [partsOf, partsFrom_nil, Lib.join]
  | cons c r =>
    have h := partsFrom_size (c :: r) []
    unfold partsOf
    by_cases hc : c = 47
    · subst hc
      have ih := partsFrom_size r []
      have e : partsFrom [] (47 :: r) = partsFrom [] r := by rw [partsFrom_slash]; rfl
      rw [e]
      by_cases hp : partsFrom [] r = []
      · rw [hp]; simp [Lib.join]
      · rw [last_cons (show r ≠ [] by rintro rfl; exact hp rfl)]
        by_cases hd : r.getLast? = some 47
        · rw [if_pos ⟨hd, hp⟩] at ih
          simp [hp, hd]
          simp at ih
          omega
        · simp [hd]
          simp at ih
          omega
    · by_cases hd : (c :: r).getLast? = some 47 ∧ partsFrom [] (c :: r) ≠ []
      · rw [if_pos hd] at h
        simp only [List.length_nil, Nat.zero_add] at h
        simp [hc, hd.1, hd.2]
        simp at h
        omega
      · have hx : ¬ (((decide (partsFrom [] (c :: r) ≠ []) && (c :: r).getLast? == some 47) = true) ∧ partsFrom [] (c :: r) ≠ []) := by
          rintro ⟨h1, h2⟩
          simp only [Bool.and_eq_true, beq_iff_eq, decide_eq_true_eq] at h1
          exact hd ⟨h1.2, h2⟩
        rw [if_neg hd] at h
        rw [if_neg hx]
        simp only [List.length_nil, Nat.zero_add] at h
        simp [hc]
        simp at h
        omega
theorem join_mem : ∀ {l : List T8} {c : UInt8}, c ∈ Lib.join l [47] → c = 47 ∨ ∃ x ∈ l, c ∈ x
  | [], c, h => by simp [Lib.join] at h
  | [x], c, h => by rw [join_one] at h; exact .inr ⟨x, by simp, h⟩
  | x :: y :: l, c, h => by
    rw [join_cons] at h
    rcases List.mem_append.1 h with h | h
    · exact .inr ⟨x, by simp, h⟩
    · rcases List.mem_cons.1 h with h | h
      · exact .inl h
      · rcases join_mem h with h | ⟨z, hz, hc⟩
        · exact .inl h
        · exact .inr ⟨z, List.mem_cons_of_mem _ hz, hc⟩
theorem show_mem {s : T8} {c : UInt8} (h : c ∈ showT3 (pathT s).1 (pathT s).2.1 (pathT s).2.2) : c = 47 ∨ c ∈ s := by
  unfold showT3 pathT at h
  simp only [] at h
  rcases List.mem_append.1 h with h | h
  · split at h
    · simp at h; exact .inl h
    · cases h
  · rcases List.mem_append.1 h with h | h
    · rcases join_mem h with h | ⟨x, hx, hc⟩
      · exact .inl h
      · rcases (partsFrom_good s [] (by simp) x hx).2.2 c hc with h | h
        · cases h
        · exact .inr h
    · split at h
      · simp at h; exact .inl h
      · cases h
def parseE (s : T8) : Int := if s = [] then 2 else if 256 < s.length then 63 else if (0 : UInt8) ∈ s then 22 else if ∃ x ∈ partsOf s, 32 < x.length then 63 else 0
theorem parseE_show {s : T8} (h : parseE s = 0) : parseE (showT3 (pathT s).1 (pathT s).2.1 (pathT s).2.2) = 0 ∧ pathT (showT3 (pathT s).1 (pathT s).2.1 (pathT s).2.2) = pathT s := by
  unfold parseE at h
  split at h
  · cases h
  · rename_i h0
    split at h
    · cases h
    · rename_i h1
      split at h
      · cases h
      · rename_i h2
        split at h
        · cases h
        · rename_i h3
          have hp := pathT_show s h0
          have hz := show_size s
          have hm := @show_mem s
          refine ⟨?_, hp⟩
          have hparts : partsOf (showT3 (pathT s).1 (pathT s).2.1 (pathT s).2.2) = partsOf s := congrArg (fun p => p.2.2) hp
          have hne : showT3 (pathT s).1 (pathT s).2.1 (pathT s).2.2 ≠ [] := by
            intro he
            rw [he] at hp
            have ha : (pathT s).1 = false := by rw [← hp]; rfl
            have hl : (pathT s).2.2 = [] := by rw [← hp]; rfl
            have ha' : (s.head? == some 47) = false := ha
            have hl' : partsOf s = [] := hl
            cases s with
            | nil => exact h0 rfl
            | cons c r =>
              simp at ha'
              unfold partsOf at hl'
              rw [partsFrom, if_neg ha'] at hl'
              have : ∀ (r cur : T8), cur ≠ [] → partsFrom cur r ≠ [] := by
                intro r
                induction r with
                | nil => intro cur hc; rw [partsFrom_nil, if_neg hc]; simp
                | cons d r ih =>
                  intro cur hc
                  rw [partsFrom]
                  split
                  · simp
                  · exact ih _ (by simp)
              exact this r _ (by simp) hl'
          unfold parseE
          rw [if_neg hne, if_neg (by omega), if_neg (fun hx => by rcases hm hx with h | h; cases h; exact h2 h), hparts, if_neg h3]
end Go.Abs
