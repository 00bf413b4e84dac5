/- A region that draws its order: what hangs on what, in the abstract machine alone. -/
import Derived.Test.YtpcchlcbmhmopaaAbWalk
namespace Go.Abs
set_option linter.unusedVariables false
set_option linter.unusedSimpArgs false

/-! ## an operation's meaning hangs on its operands -/
section
variable {P : Program} {call : CallFn}

theorem mapOpt_congr {α β : Type} {f g : α → Option β} : ∀ {l : List α}, (∀ x ∈ l, f x = g x) → mapOpt f l = mapOpt g l
  | [], _ => rfl
  | x :: xs, h => by simp only [mapOpt, h x (by simp), mapOpt_congr (l := xs) (fun y hy => h y (by simp [hy]))]

theorem evParts_congr {T T2 : List AV} : ∀ {l : List (Nat × Operand)}, (∀ x ∈ l, ev P T x.2 = ev P T2 x.2) → evParts P T l = evParts P T2 l
  | [], _ => rfl
  | (i, x) :: r, h => by
    have h1 := h (i, x) (by simp)
    simp only at h1
    simp only [evParts, h1, evParts_congr (l := r) (fun y hy => h y (by simp [hy]))]

theorem evOpt_congr {T T2 : List AV} {x : Option Operand} (h : ∀ y, x = some y → ev P T y = ev P T2 y) : evOpt P T x = evOpt P T2 x := by
  cases x with
  | none => rfl
  | some y => simp only [evOpt, h y rfl]

theorem callSem_congr {T T2 : List AV} {c : Call} (h : ∀ x ∈ c.operands, ev P T x = ev P T2 x) : callSem P call T c = callSem P call T2 c := by
  have h1 : mapOpt (ev P T) c.args.toList = mapOpt (ev P T2) c.args.toList := mapOpt_congr fun x hx => h x (by simp [Call.operands]; right; simpa using hx)
  unfold callSem
  rw [h1]
  cases hc : c.callee with
  | builtin b => rfl
  | invoke r m => rfl
  | value f =>
    have : ev P T f = ev P T2 f := h f (by simp [Call.operands, hc])
    simp only [this]

theorem sem_congr {T T2 : List AV} {op : Op} (h : ∀ x ∈ op.operands, ev P T x = ev P T2 x) : sem P call T op = sem P call T2 op := by
  cases op <;> simp only [Op.operands] at h <;> simp only [sem]
  case build t ps => rw [evParts_congr fun x hx => h x.2 (by simp; exact ⟨x.1, by simpa using hx⟩)]
  case buildSlice t n ps => rw [evParts_congr fun x hx => h x.2 (by simp; exact ⟨x.1, by simpa using hx⟩)]
  case makeFunc fn first captured =>
    rw [mapOpt_congr fun x hx => h x (by simp; left; simpa using hx), mapOpt_congr (l := captured.toList) fun x hx => h x (by simp; right; simpa using hx)]
  case call c => exact callSem_congr h
  case makeMap t r =>
    cases r with
    | none => cases P.underlying t with
      | none => rfl
      | some d => cases d <;> rfl
    | some x =>
      have h1 := h x (by simp)
      cases P.underlying t with
      | none => rfl
      | some d => cases d <;> first
        | rfl
        | simp only [h1]
  case slice t x lo hi mx =>
    rw [h x (by simp), evOpt_congr (x := lo) fun y hy => h y (by simp [hy]), evOpt_congr (x := hi) fun y hy => h y (by simp [hy]), evOpt_congr (x := mx) fun y hy => h y (by simp [hy])]
  all_goals first
    | rfl
    | (simp_all; done)

theorem wanted_congr {ops : Array Oper} {T T2 : List AV} {o : Oper} (h : ∀ t ∈ o.looksAt ops, T[t]? = T2[t]?) : wantedA ops T o = wantedA ops T2 o := by
  unfold wantedA
  cases hg : o.guard with
  | none => rfl
  | some q =>
    obtain ⟨j, want⟩ := q
    simp only
    have : yieldedA ops T j = yieldedA ops T2 j := by
      unfold yieldedA
      cases ho : ops[j]? with
      | none => rfl
      | some p =>
        cases hd : p.dst with
        | none => simp only [hd]
        | some d =>
          simp only [hd]
          rw [h d (by simp [Oper.looksAt, hg, ho, hd])]
    rw [this]

theorem ev_congr {ops : Array Oper} {T T2 : List AV} {o : Oper} (h : ∀ t ∈ o.looksAt ops, T[t]? = T2[t]?) : ∀ x ∈ o.op.operands, ev P T x = ev P T2 x := by
  intro x hx
  cases x with
  | tmp t =>
    have := h t (by simp only [Oper.looksAt, List.mem_append, List.mem_filterMap]; exact .inl ⟨.tmp t, by simpa using hx, rfl⟩)
    simp only [ev, List.getD_eq_getElem?_getD, this]
  | const c => rfl
  | global g => rfl
  | func f => rfl

/-- What is read lies somewhere. -/
theorem reads_placed {T : List AV} {op : Op} {bs : List Nat} {k : List AObj → Option AV} {ρ : Map} {a : Act} (h : sem P call T op = some (.read bs k)) (hf : Frel ρ T a) (hg : Glob P ρ) :
    ∀ b ∈ bs, ∃ p, ρ b = some p := by
  have one : ∀ {v : AV} {s : Sm}, (∀ x, s ≠ .pure x) → True := fun _ => trivial
  have nomap : ∀ {o : Option AV}, o.map Sm.pure = some (.read bs k) → False := by intro o h; cases o <;> cases h
  cases op <;> simp only [sem] at h
  case load t x =>
    split at h
    · rename_i b o g n hx _ _
      injection h with h; injection h with h1 h2
      subst h1
      obtain ⟨p, hp, _⟩ := ev_rel hf hg hx
      intro c hc
      simp at hc; subst hc
      exact ⟨p, hp⟩
    · cases h
  case binOp op t x y ty =>
    split at h
    case h_2 => cases h
    rename_i vx vy hx hy
    have key : ∀ neg, eqSem P t vx vy neg = some (.read bs k) → ∀ b ∈ bs, ∃ p, ρ b = some p := by
      intro neg h
      unfold eqSem at h
      split at h <;> (try (cases h; done))
      · rename_i e q1 q2 hd
        split at h
        · cases h
        · split at h
          · cases h
          · injection h with h; injection h with h1 h2
            subst h1
            obtain ⟨p, hp, _⟩ := ev_rel hf hg hx
            obtain ⟨q, hq, _⟩ := ev_rel hf hg hy
            intro c hc
            simp at hc
            rcases hc with rfl | rfl
            · exact ⟨p, hp⟩
            · exact ⟨q, hq⟩
      all_goals
        split at h
        · cases h
        · split at h <;> cases h
    unfold binSem at h
    split at h
    · exact (nomap h).elim
    · exact (nomap h).elim
    · split at h
      · exact (nomap h).elim
      · cases h
    · exact (nomap h).elim
    · split at h <;> cases h
    · split at h <;> cases h
    · exact key _ h
    · exact key _ h
    · cases h
  case convert src dst x =>
    split at h
    case h_2 => cases h
    rename_i vx hx
    unfold convSem at h
    split at h <;> (try (cases h; done))
    · split at h
      · split at h <;> cases h
      · cases h
    · split at h
      · split at h <;> cases h
      · cases h
    · split at h
      · cases h
      · rename_i b o _
        injection h with h; injection h with h1 h2
        subst h1
        obtain ⟨p, y, c', hp, _⟩ := ev_rel hf hg hx
        intro c hc
        simp at hc; subst hc
        exact ⟨p, hp⟩
      · cases h
  case lookup t x kk ok =>
    split at h
    case h_2 => cases h
    rename_i vx vk hx hk
    unfold lookupSem at h
    split at h
    · split at h
      · split at h
        · cases h
        · rename_i r _
          injection h with h; injection h with h1 h2
          subst h1
          obtain ⟨p, hp, _⟩ := ev_rel hf hg hx
          intro c hc
          simp at hc; subst hc
          exact ⟨p, hp⟩
        · cases h
      · cases h
    · cases h
  case call c =>
    unfold callSem at h
    split at h
    · cases h
    rename_i args hargs
    have hrel := evs_rel hf hg hargs
    split at h
    · unfold builtinSem at h
      split at h
      · unfold appendSem at h
        (repeat' split at h) <;> cases h
      · unfold copySem at h
        (repeat' split at h) <;> cases h
      · unfold clearSem at h
        (repeat' split at h) <;> cases h
      · unfold deleteSem at h
        (repeat' split at h) <;> cases h
      · rename_i x
        unfold lenSem at h
        split at h
        · cases h
        split at h <;> (try (cases h; done))
        · injection h with h; injection h with h1 h2
          subst h1
          obtain ⟨u, l, _, hu, _⟩ := hrel
          obtain ⟨p, hp, _⟩ := hu
          intro c hc
          simp at hc; subst hc
          exact ⟨p, hp⟩
        · split at h <;> cases h
      · unfold capSem at h
        (repeat' split at h) <;> cases h
      · exact (nomap h).elim
      · exact (nomap h).elim
      · cases h
    · split at h <;> cases h
    · cases h
  case buildSlice t n ps =>
    split at h
    · unfold buildSliceA at h
      (repeat' split at h) <;> cases h
    · cases h
  case makeSlice t l c =>
    split at h
    · unfold makeSliceSem at h
      (repeat' split at h) <;> cases h
    · cases h
  case alloc e => cases hz : tzero P e <;> simp [hz] at h
  case box e x => cases hz : ev P T x <;> simp [hz] at h
  case mapUpdate t m kk x =>
    split at h
    · unfold updateSem at h
      (repeat' split at h) <;> cases h
    · cases h
  case insert t m kk x =>
    split at h
    · unfold updateSem at h
      (repeat' split at h) <;> cases h
    · cases h
  all_goals first
    | exact (nomap h).elim
    | cases h
    | (split at h <;> first
        | exact (nomap h).elim
        | cases h
        | (split at h <;> first
            | exact (nomap h).elim
            | cases h
            | (split at h <;> first
                | exact (nomap h).elim
                | cases h)))

end

/-! ## bits -/
theorem foldl_bits {b : Array Nat} {k : Nat} : ∀ {l : List Nat} {s : Nat}, (l.foldl (fun s j => s ||| 2 ^ j ||| b.getD j 0) s).testBit k = true → s.testBit k = true ∨ ∃ j ∈ l, j = k ∨ (b.getD j 0).testBit k = true
  | [], s, h => .inl h
  | j :: l, s, h => by
    simp only [List.foldl_cons] at h
    rcases foldl_bits h with h | ⟨x, hx, hr⟩
    · simp only [Nat.testBit_or, Bool.or_eq_true] at h
      rcases h with (h | h) | h
      · exact .inl h
      · rw [Nat.testBit_two_pow] at h
        exact .inr ⟨j, by simp, .inl (by simpa using h)⟩
      · exact .inr ⟨j, by simp, .inr h⟩
    · exact .inr ⟨x, by simp [hx], hr⟩

theorem mem_zipIdx {α : Type} {l : List α} {i : Nat} {x : α} (h : l[i]? = some x) : (x, i) ∈ l.zipIdx := by
  rw [List.mem_zipIdx_iff_getElem?]
  exact h

/-- What must come ahead of an operation is an edge, or ahead of one. -/
theorem closed_bits {ops : Array Oper} {b : Array Nat} (h : closedOk ops b = true) {i k : Nat} {o : Oper} (ho : ops[i]? = some o) (hb : (b.getD i 0).testBit k = true) :
    ∃ j ∈ preds o, j = k ∨ (b.getD j 0).testBit k = true := by
  unfold closedOk at h
  rw [List.all_eq_true] at h
  have := h (o, i) (mem_zipIdx (by simpa using ho))
  simp only [beq_iff_eq] at this
  rw [this] at hb
  rcases foldl_bits hb with h | h
  · simp at h
  · exact h

theorem edges_lt {ops : Array Oper} (h : edgesOk ops = true) {i : Nat} {o : Oper} (ho : ops[i]? = some o) : ∀ k ∈ preds o, k < i := by
  unfold edgesOk at h
  rw [List.all_eq_true] at h
  have := h (o, i) (mem_zipIdx (by simpa using ho))
  simp only [List.all_eq_true, decide_eq_true_eq] at this
  exact this

theorem looks_apart {ops : Array Oper} {b : Array Nat} (h : looksOk ops b = true) {i j : Nat} {o p : Oper} {d : Tmp} (ho : ops[i]? = some o) (hp : ops[j]? = some p) (hne : i ≠ j) (hd : p.dst = some d) (hl : d ∈ o.looksAt ops) :
    (b.getD i 0).testBit j = true ∨ (b.getD j 0).testBit i = true := by
  unfold looksOk at h
  rw [List.all_eq_true] at h
  have h1 := h (o, i) (mem_zipIdx (by simpa using ho))
  simp only [List.all_eq_true] at h1
  have h2 := h1 (p, j) (mem_zipIdx (by simpa using hp))
  simp only [hd, Bool.or_eq_true, beq_iff_eq, Bool.not_eq_true'] at h2
  rcases h2 with h2 | (h2 | h2) | h2
  · exact absurd h2 hne
  · simp [List.contains_iff_mem, hl] at h2
  · exact .inl h2
  · exact .inr h2

theorem nodupB_ok : ∀ {l : List Nat}, nodupB l = true → l.Nodup
  | [], _ => List.nodup_nil
  | x :: xs, h => by
    simp only [nodupB, Bool.and_eq_true, Bool.not_eq_true', List.contains_eq_mem, decide_eq_false_iff_not] at h
    exact List.nodup_cons.2 ⟨h.1, nodupB_ok h.2⟩

/-- Two operations write to different places. -/
theorem dst_ne : ∀ {l : List Oper} {i j : Nat} {o p : Oper} {d : Tmp}, (dstsOf l).Nodup → l[i]? = some o → l[j]? = some p → o.dst = some d → p.dst = some d → i = j
  | [], i, j, o, p, d, h, hi, hj, ho, hp => by simp at hi
  | x :: xs, i, j, o, p, d, h, hi, hj, ho, hp => by
    have mem : ∀ {k : Nat} {q : Oper}, xs[k]? = some q → q.dst = some d → d ∈ dstsOf xs := by
      intro k q hk hq
      exact List.mem_filterMap.2 ⟨q, List.mem_of_getElem? hk, hq⟩
    cases i with
    | zero =>
      simp at hi; subst hi
      cases j with
      | zero => rfl
      | succ j =>
        simp at hj
        have hm := mem hj hp
        simp only [dstsOf, List.filterMap_cons, ho] at h
        exact absurd hm (List.nodup_cons.1 h).1
    | succ i =>
      simp at hi
      cases j with
      | zero =>
        simp at hj; subst hj
        have hm := mem hi ho
        simp only [dstsOf, List.filterMap_cons, hp] at h
        exact absurd hm (List.nodup_cons.1 h).1
      | succ j =>
        simp at hj
        have h' : (dstsOf xs).Nodup := by
          simp only [dstsOf, List.filterMap_cons] at h
          cases hx : x.dst with
          | none => show (List.filterMap (fun x => x.dst) xs).Nodup; simpa [hx] using h
          | some y => rw [hx] at h; exact (List.nodup_cons.1 h).2
        rw [dst_ne h' hi hj ho hp]

/-! ## the order -/
theorem canon_spec {P : Program} {ops : Array Oper} {b : Array Nat} : ∀ {c : List Nat} {done : Nat}, canonOk P ops b c done = true → ∀ {pre : List Nat} {i : Nat} {post : List Nat}, c = pre ++ i :: post →
    (∃ o, ops[i]? = some o) ∧ (∀ k, (b.getD i 0).testBit k = true → done.testBit k = true ∨ k ∈ pre) ∧ (∀ o, ops[i]? = some o → isHeavy P o.op = true → ∀ k, (done.testBit k = true ∨ k ∈ pre) → (b.getD i 0).testBit k = true)
  | [], done, h, pre, i, post, e => by simp at e
  | x :: xs, done, h, pre, i, post, e => by
    simp only [canonOk, Bool.and_eq_true] at h
    obtain ⟨⟨h1, h2⟩, h3⟩ := h
    cases pre with
    | nil =>
      simp only [List.nil_append, List.cons.injEq] at e
      obtain ⟨rfl, rfl⟩ := e
      cases ho : ops[x]? with
      | none => simp [ho] at h2
      | some o =>
        refine ⟨⟨o, rfl⟩, fun k hk => .inl ?_, ?_⟩
        · simp only [beq_iff_eq] at h1
          rw [← h1, Nat.testBit_or, hk]; rfl
        · intro o' ho' hh k hk
          injection ho' with ho'; subst ho'
          simp only [ho, hh, Bool.not_true, Bool.false_or, beq_iff_eq] at h2
          rcases hk with hk | hk
          · rw [← h2, Nat.testBit_or, hk]; rfl
          · simp at hk
    | cons y ys =>
      simp only [List.cons_append, List.cons.injEq] at e
      obtain ⟨rfl, e⟩ := e
      obtain ⟨g1, g2, g3⟩ := canon_spec h3 e
      have hbit : ∀ k, (done ||| 2 ^ x).testBit k = true ↔ (done.testBit k = true ∨ k = x) := by
        intro k
        rw [Nat.testBit_or, Nat.testBit_two_pow]
        simp only [Bool.or_eq_true, decide_eq_true_eq]
        exact ⟨fun h => h.imp id Eq.symm, fun h => h.imp id Eq.symm⟩
      refine ⟨g1, fun k hk => ?_, fun o ho hh k hk => g3 o ho hh k ?_⟩
      · rcases g2 k hk with h | h
        · rcases (hbit k).1 h with h | rfl
          · exact .inl h
          · exact .inr (by simp)
        · exact .inr (by simp [h])
      · rcases hk with h | h
        · exact .inl ((hbit k).2 (.inl h))
        · simp only [List.mem_cons] at h
          rcases h with rfl | h
          · exact .inl ((hbit _).2 (.inr rfl))
          · exact .inr h

end Go.Abs
