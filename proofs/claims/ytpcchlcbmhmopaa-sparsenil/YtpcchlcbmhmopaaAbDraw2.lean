/- A region that draws its order: the machine's own order, and operations done early. -/
import Derived.Test.YtpcchlcbmhmopaaAbDraw1
namespace Go.Abs
set_option linter.unusedVariables false
set_option linter.unusedSimpArgs false

/-- An operation that the world has done, and the abstract machine has not come to yet. -/
structure En where
  idx : Nat
  val : AV
  al : Option (Nat × AObj)

def dstOf (ops : Array Oper) (i : Nat) : Option Tmp := (ops[i]?).bind (·.dst)

def addT (ops : Array Oper) : List En → List AV → List AV
  | [], T => T
  | e :: r, T => put (addT ops r T) (dstOf ops e.idx) e.val

def addH : List En → Heap → Heap
  | [], H => H
  | e :: r, H => match e.al with
    | none => addH r H
    | some (id, o) => (addH r H).set id o

theorem length_put (T : List AV) (d : Option Tmp) (v : AV) : (put T d v).length = T.length := by cases d <;> simp [put]

theorem length_addT (ops : Array Oper) : ∀ (E : List En) (T : List AV), (addT ops E T).length = T.length
  | [], T => rfl
  | e :: r, T => by simp [addT, length_put, length_addT ops r T]

theorem put_get_ne {T : List AV} {d : Option Tmp} {v : AV} {t : Nat} (h : d ≠ some t) : (put T d v)[t]? = T[t]? := by
  cases d with
  | none => rfl
  | some d => simp only [put]; rw [List.getElem?_set_ne]; rintro rfl; exact h rfl

theorem put_get_eq {T : List AV} {v : AV} {t : Nat} (h : t < T.length) : (put T (some t) v)[t]? = some v := by simp [put, h]

theorem addT_other {ops : Array Oper} {T : List AV} {t : Nat} : ∀ {E : List En}, (∀ e ∈ E, dstOf ops e.idx ≠ some t) → (addT ops E T)[t]? = T[t]?
  | [], _ => rfl
  | e :: r, h => by
    simp only [addT]
    rw [put_get_ne (h e (by simp)), addT_other fun x hx => h x (by simp [hx])]

theorem addT_mem {ops : Array Oper} {T : List AV} {t : Nat} (ht : t < T.length) (hd : (dstsOf ops.toList).Nodup) : ∀ {E : List En} {e : En}, (E.map (·.idx)).Nodup → e ∈ E → dstOf ops e.idx = some t → (addT ops E T)[t]? = some e.val
  | [], e, _, h, _ => by cases h
  | x :: r, e, hn, h, hdst => by
    simp only [List.map_cons, List.nodup_cons] at hn
    simp only [addT]
    by_cases hx : dstOf ops x.idx = some t
    · have : x.idx = e.idx := by
        unfold dstOf at hx hdst
        cases h1 : ops[x.idx]? with
        | none => simp [h1] at hx
        | some o1 =>
          cases h2 : ops[e.idx]? with
          | none => simp [h2] at hdst
          | some o2 =>
            simp only [h1, Option.bind_some] at hx
            simp only [h2, Option.bind_some] at hdst
            exact dst_ne hd (by simpa using h1) (by simpa using h2) hx hdst
      have hex : e = x := by
        simp only [List.mem_cons] at h
        rcases h with h | h
        · exact h
        · exact absurd (List.mem_map.2 ⟨e, h, this.symm⟩) hn.1
      subst hex
      rw [hx]
      exact put_get_eq (by rw [length_addT]; exact ht)
    · rw [put_get_ne hx]
      simp only [List.mem_cons] at h
      rcases h with h | h
      · subst h; exact absurd hdst hx
      · exact addT_mem ht hd hn.2 h hdst

@[simp] theorem next_addH : ∀ (E : List En) (H : Heap), (addH E H).next = H.next
  | [], H => rfl
  | e :: r, H => by
    simp only [addH]
    split
    · exact next_addH r H
    · simp [next_addH r H]

theorem addH_other {H : Heap} {b : Nat} : ∀ {E : List En}, (∀ e ∈ E, ∀ o, e.al ≠ some (b, o)) → (addH E H).get b = H.get b
  | [], _ => rfl
  | e :: r, h => by
    simp only [addH]
    split
    · exact addH_other fun x hx => h x (by simp [hx])
    · rename_i id o he
      rw [Heap.get_set, if_neg (by rintro rfl; exact h e (by simp) o he), addH_other fun x hx => h x (by simp [hx])]

/-- No two of them made one block. -/
def IdsApart (E : List En) : Prop := ∀ e ∈ E, ∀ e' ∈ E, ∀ b o o', e.al = some (b, o) → e'.al = some (b, o') → e = e'

theorem addH_mem {H : Heap} {b : Nat} {o : AObj} : ∀ {E : List En} {e : En}, IdsApart E → e ∈ E → e.al = some (b, o) → (addH E H).get b = some o
  | [], e, _, h, _ => by cases h
  | x :: r, e, ha, h, he => by
    simp only [addH]
    by_cases hx : ∃ o', x.al = some (b, o')
    · obtain ⟨o', hx⟩ := hx
      have := ha e h x (by simp) b o o' he hx
      subst this
      rw [he] at hx
      injection hx with hx; injection hx with _ hx; subst hx
      rw [he]
      simp only [Heap.get_set_same]
    · have hr : e ∈ r := by
        simp only [List.mem_cons] at h
        rcases h with rfl | h
        · exact absurd ⟨o, he⟩ hx
        · exact h
      have ih := addH_mem (E := r) (fun y hy z hz => ha y (by simp [hy]) z (by simp [hz])) hr he (H := H)
      split
      · exact ih
      · rename_i id o1 hx1
        rw [Heap.get_set, if_neg (by rintro rfl; exact hx ⟨_, hx1⟩)]
        exact ih

section
variable {P : Program} {call : CallFn} {ops : Array Oper} {b : Array Nat} {hv : List Nat} {n0 : Nat}

theorem drun_append : ∀ {l m : List Nat} {s s' : St}, drun P call ops b hv n0 (l ++ m) s = some s' → ∃ s1, drun P call ops b hv n0 l s = some s1 ∧ drun P call ops b hv n0 m s1 = some s'
  | [], m, s, s', h => ⟨s, rfl, h⟩
  | i :: l, m, s, s', h => by
    simp only [List.cons_append, drun] at h
    cases h1 : dstep P call ops b hv n0 i s with
    | none => simp [h1] at h
    | some s2 =>
      simp only [h1] at h
      obtain ⟨s1, h2, h3⟩ := drun_append h
      exact ⟨s1, by simp only [drun, h1]; exact h2, h3⟩

theorem dstep_T {i : Nat} {s s' : St} (h : dstep P call ops b hv n0 i s = some s') : ∃ v, s'.T = put s.T (dstOf ops i) v := by
  unfold dstep at h
  cases ho : ops[i]? with
  | none => simp [ho] at h
  | some o =>
    simp only [ho] at h
    have hd : dstOf ops i = o.dst := by simp [dstOf, ho]
    rw [hd]
    split at h
    · split at h
      · split at h
        · rename_i v H1 _
          obtain rfl := Option.some.inj h
          exact ⟨v, rfl⟩
        · cases h
      · obtain rfl := Option.some.inj h
        exact ⟨_, rfl⟩
    · split at h
      · rename_i v x _
        obtain rfl := Option.some.inj h
        exact ⟨v, rfl⟩
      · cases h

theorem drun_length : ∀ {l : List Nat} {s s' : St}, drun P call ops b hv n0 l s = some s' → s'.T.length = s.T.length
  | [], s, s', h => by simp only [drun, Option.some.injEq] at h; rw [h]
  | i :: l, s, s', h => by
    simp only [drun] at h
    cases h1 : dstep P call ops b hv n0 i s with
    | none => simp [h1] at h
    | some s2 =>
      simp only [h1] at h
      obtain ⟨v, hT⟩ := dstep_T h1
      rw [drun_length h, hT, length_put]

theorem drun_T_other {t : Nat} : ∀ {l : List Nat} {s s' : St}, drun P call ops b hv n0 l s = some s' → (∀ j ∈ l, dstOf ops j ≠ some t) → s'.T[t]? = s.T[t]?
  | [], s, s', h, _ => by simp only [drun, Option.some.injEq] at h; rw [h]
  | i :: l, s, s', h, hn => by
    simp only [drun] at h
    cases h1 : dstep P call ops b hv n0 i s with
    | none => simp [h1] at h
    | some s2 =>
      simp only [h1] at h
      obtain ⟨v, hT⟩ := dstep_T h1
      rw [drun_T_other h fun j hj => hn j (by simp [hj]), hT, put_get_ne (hn i (by simp))]

/-- A light operation's step. -/
theorem dstep_light {i : Nat} {o : Oper} {s s' : St} (ho : ops[i]? = some o) (hl : isHeavy P o.op = false) (h : dstep P call ops b hv n0 i s = some s') :
    ∃ v x, lightRes P call ops b hv n0 i o s = some (v, x) ∧ s' = { T := put s.T o.dst v, H := pushO s.H x, snaps := s.snaps } := by
  unfold dstep at h
  simp only [ho, hl, Bool.false_eq_true, if_false] at h
  split at h
  · rename_i v x hr
    obtain rfl := Option.some.inj h
    exact ⟨v, x, hr, rfl⟩
  · cases h

theorem split_unique {c : List Nat} (hn : c.Nodup) {p1 p2 q1 q2 : List Nat} {i : Nat} (h1 : c = p1 ++ i :: q1) (h2 : c = p2 ++ i :: q2) : p1 = p2 ∧ q1 = q2 := by
  subst h1
  induction p1 generalizing p2 with
  | nil =>
    cases p2 with
    | nil => simp at h2; exact ⟨rfl, h2⟩
    | cons x xs =>
      simp only [List.nil_append, List.cons_append, List.cons.injEq] at h2
      obtain ⟨rfl, h2⟩ := h2
      simp only [List.nil_append, List.nodup_cons] at hn
      rw [h2] at hn
      exact absurd (by simp) hn.1
  | cons y ys ih =>
    cases p2 with
    | nil =>
      simp only [List.cons_append, List.nil_append, List.cons.injEq] at h2
      obtain ⟨rfl, h2⟩ := h2
      simp only [List.cons_append, List.nodup_cons] at hn
      exact absurd (by simp) hn.1
    | cons x xs =>
      simp only [List.cons_append, List.cons.injEq] at h2
      obtain ⟨rfl, h2⟩ := h2
      simp only [List.cons_append, List.nodup_cons] at hn
      obtain ⟨e1, e2⟩ := ih hn.2 h2
      exact ⟨by rw [e1], e2⟩

/-- What became of an operation that was done early, where the abstract machine comes to it. -/
def Wit (P : Program) (call : CallFn) (ops : Array Oper) (b : Array Nat) (hv : List Nat) (n0 : Nat) (c : List Nat) (s : St) (e : En) : Prop :=
  ∃ pre post si o x, c = pre ++ e.idx :: post ∧ drun P call ops b hv n0 pre s = some si ∧ ops[e.idx]? = some o ∧ isHeavy P o.op = false ∧
    lightRes P call ops b hv n0 e.idx o si = some (e.val, x) ∧ e.al = x.map fun y => (si.H.next, y)

theorem Wit.ids {hmono : CallMono call} {c : List Nat} {s : St} (hn : c.Nodup) {e e' : En} (h : Wit P call ops b hv n0 c s e) (h' : Wit P call ops b hv n0 c s e') {id : Nat} {o o' : AObj}
    (he : e.al = some (id, o)) (he' : e'.al = some (id, o')) (hrun : ∃ sf, drun P call ops b hv n0 c s = some sf) : e.idx = e'.idx := by
  obtain ⟨pre, post, si, op, x, hc, hd, ho, hl, hr, ha⟩ := h
  obtain ⟨pre', post', si', op', x', hc', hd', ho', hl', hr', ha'⟩ := h'
  cases x with
  | none => rw [ha] at he; cases he
  | some y =>
    cases x' with
    | none => rw [ha'] at he'; cases he'
    | some y' =>
      rw [ha] at he; rw [ha'] at he'
      simp only [Option.map_some, Option.some.injEq, Prod.mk.injEq] at he he'
      obtain ⟨e1, _⟩ := he
      obtain ⟨e2, _⟩ := he'
      -- one of the two comes first
      have key : ∀ {p q p' q' : List Nat} {i j : Nat} {t t' : St} {oi : Oper} {v : AV} {z : AObj}, c = p ++ i :: q → c = p' ++ j :: q' → p.length < p'.length → drun P call ops b hv n0 p s = some t → drun P call ops b hv n0 p' s = some t' →
          ops[i]? = some oi → isHeavy P oi.op = false → lightRes P call ops b hv n0 i oi t = some (v, some z) → t.H.next < t'.H.next := by
        intro p q p' q' i j t t' oi v z h1 h2 hlt ht ht' hoi hli hri
        have : ∃ r, p' = p ++ i :: r := by
          have e : p ++ i :: q = p' ++ j :: q' := h1.symm.trans h2
          have := List.append_eq_append_iff.1 e
          rcases this with ⟨r, hr1, hr2⟩ | ⟨r, hr1, hr2⟩
          · cases r with
            | nil => simp at hr1; rw [hr1] at hlt; omega
            | cons z zs =>
              simp only [List.cons_append, List.cons.injEq] at hr2
              obtain ⟨rfl, _⟩ := hr2
              exact ⟨zs, hr1⟩
          · rw [hr1] at hlt; simp at hlt; omega
        obtain ⟨r, rfl⟩ := this
        obtain ⟨t1, g1, g2⟩ := drun_append ht'
        rw [ht] at g1; injection g1 with g1; subst g1
        simp only [drun] at g2
        cases hst : dstep P call ops b hv n0 i t with
        | none => simp [hst] at g2
        | some t2 =>
          simp only [hst] at g2
          obtain ⟨v2, x2, hr2, rfl⟩ := dstep_light hoi hli hst
          rw [hri] at hr2
          injection hr2 with hr2; injection hr2 with _ hr2; subst hr2
          have := drun_mono hmono g2
          simp [pushO] at this
          omega
      rcases Nat.lt_trichotomy pre.length pre'.length with hlt | heq | hgt
      · have := key hc hc' hlt hd hd' ho hl hr; omega
      · have e : pre ++ e.idx :: post = pre' ++ e'.idx :: post' := hc.symm.trans hc'
        have := List.append_inj e heq
        injection this.2
      · have := key hc' hc hgt hd' hd ho' hl' hr'; omega

end
end Go.Abs
