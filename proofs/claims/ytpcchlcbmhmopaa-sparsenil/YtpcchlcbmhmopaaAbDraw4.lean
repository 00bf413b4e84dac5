/- A region that draws its order: an operation done early; a heavy one done in its turn; all of them. -/
import Derived.Test.YtpcchlcbmhmopaaAbDraw3
namespace Go.Abs
set_option linter.unusedVariables false
set_option linter.unusedSimpArgs false

theorem Keeps.congr_left {ρ ρ' : Map} {H H0 H' : Heap} {w w' : World} (h : Keeps ρ H w ρ' H' w') (hg : ∀ b, H0.get b = H.get b) : Keeps ρ H0 w ρ' H' w' where
  size := h.size
  kept := fun B o hB ho => h.kept B o hB fun hx => ho (hx.congr fun b => (hg b).symm)
  owns := fun B hx => (h.owns B hx).imp id fun hx => hx.congr fun b => (hg b).symm
  tape := h.tape
  os := h.os
  output := h.output

section
variable {P : Program} {call : CallFn} {ops : Array Oper} {b : Array Nat} {hv : List Nat} {n0 : Nat}
variable {ρ0 : Map} {H0 : Heap} {w0 : World} {a0 : Act} {sf : St}

theorem drun_snaps (hx : Fix P call ops b hv) : ∀ {l : List Nat} {s s' : St}, drun P call ops b hv n0 l s = some s' → ∃ nw, s'.snaps = nw ++ s.snaps ∧ (nw = [] → ∀ j ∈ l, ∀ o, ops[j]? = some o → isHeavy P o.op = false)
  | [], s, s', h => by
    simp only [drun, Option.some.injEq] at h
    exact ⟨[], by rw [h]; rfl, by simp⟩
  | i :: l, s, s', h => by
    simp only [drun] at h
    cases h1 : dstep P call ops b hv n0 i s with
    | none => simp [h1] at h
    | some s2 =>
      simp only [h1] at h
      obtain ⟨nw, e, hh⟩ := drun_snaps hx h
      unfold dstep at h1
      cases ho : ops[i]? with
      | none => simp [ho] at h1
      | some o =>
        simp only [ho] at h1
        cases hp : isHeavy P o.op with
        | true =>
          simp only [hp, if_true] at h1
          have : ∃ H1, s2.snaps = H1 :: s.snaps := by
            split at h1
            · split at h1
              · obtain rfl := Option.some.inj h1; exact ⟨_, rfl⟩
              · cases h1
            · obtain rfl := Option.some.inj h1; exact ⟨_, rfl⟩
          obtain ⟨H1, e1⟩ := this
          exact ⟨nw ++ [H1], by rw [e, e1]; simp, by simp⟩
        | false =>
          simp only [hp, Bool.false_eq_true, if_false] at h1
          split at h1
          · obtain rfl := Option.some.inj h1
            refine ⟨nw, e, fun hn j hj o' ho' => ?_⟩
            simp only [List.mem_cons] at hj
            rcases hj with rfl | hj
            · rw [ho] at ho'; injection ho' with ho'; subst ho'; exact hp
            · exact hh hn j hj o' ho'
          · cases h1

/-- Without a heavy operation memory only gets more blocks, each of them an operation's of the path. -/
theorem light_path {call : CallFn} (hm : CallMono call) : ∀ {l : List Nat} {s s' : St}, drun P call ops b hv n0 l s = some s' → (∀ j ∈ l, ∀ o, ops[j]? = some o → isHeavy P o.op = false) → ∀ x o, x < s'.H.next → s'.H.get x = some o →
    (x < s.H.next ∧ s.H.get x = some o) ∨ ∃ p1 j p2 sj oj v y, l = p1 ++ j :: p2 ∧ drun P call ops b hv n0 p1 s = some sj ∧ ops[j]? = some oj ∧ isHeavy P oj.op = false ∧ lightRes P call ops b hv n0 j oj sj = some (v, some y) ∧ x = sj.H.next ∧ o = y
  | [], s, s', h, _, x, o, hlt, hg => by
    simp only [drun, Option.some.injEq] at h
    subst h
    exact .inl ⟨hlt, hg⟩
  | i :: l, s, s', h, hl, x, o, hlt, hg => by
    simp only [drun] at h
    cases h1 : dstep P call ops b hv n0 i s with
    | none => simp [h1] at h
    | some s2 =>
      simp only [h1] at h
      rcases light_path hm h (fun j hj => hl j (by simp [hj])) x o hlt hg with ⟨g1, g2⟩ | ⟨p1, j, p2, sj, oj, v, y, e, hd, r⟩
      · cases ho : ops[i]? with
        | none => simp [dstep, ho] at h1
        | some oi =>
          have hli := hl i (by simp) oi ho
          obtain ⟨v, z, hr, rfl⟩ := dstep_light ho hli h1
          cases z with
          | none => exact .inl ⟨g1, g2⟩
          | some y =>
            simp only [pushO] at g1 g2
            rw [Heap.get_push] at g2
            split at g2
            · rename_i e
              injection g2 with g2
              exact .inr ⟨[], i, l, s, oi, v, y, rfl, rfl, ho, hli, hr, e, g2.symm⟩
            · simp at g1
              exact .inl ⟨by omega, g2⟩
      · exact .inr ⟨i :: p1, j, p2, sj, oj, v, y, by rw [e]; rfl, by simp only [drun, h1]; exact hd, r⟩

theorem filter_le {l : List Nat} {p q : Nat → Bool} (h : ∀ x ∈ l, p x = true → q x = true) : (l.filter p).length ≤ (l.filter q).length := by
  induction l with
  | nil => simp
  | cons x xs ih =>
    have ih := ih fun y hy => h y (by simp [hy])
    simp only [List.filter_cons]
    cases hp : p x with
    | true => rw [if_pos rfl, if_pos (h x (by simp) hp)]; simp; exact ih
    | false =>
      rw [if_neg (by simp)]
      split
      · simp; omega
      · exact ih

/-- An entry's block lies beyond what the abstract machine has. -/
theorem Inv.id_ge (hx : Fix P call ops b hv) {c : List Nat} {s : St} {E : List En} {ls : Array Bool} {ρ : Map} {a : Act} {w : World} (h : Inv P call ops b hv n0 ρ0 H0 w0 a0 sf c s E ls ρ a w) {e : En} (he : e ∈ E) {id : Nat} {o : AObj} (ha : e.al = some (id, o)) : s.H.next ≤ id := by
  obtain ⟨pre, post, si, op, x, hc, hd, ho, hl, hr, hal⟩ := h.wit e he
  rw [hal] at ha
  cases x with
  | none => cases ha
  | some y =>
    simp only [Option.map_some, Option.some.injEq, Prod.mk.injEq] at ha
    rw [← ha.1]
    exact drun_mono hx.hmono hd

theorem Inv.mem_c (hx : Fix P call ops b hv) {c : List Nat} {s : St} {E : List En} {ls : Array Bool} {ρ : Map} {a : Act} {w : World} (h : Inv P call ops b hv n0 ρ0 H0 w0 a0 sf c s E ls ρ a w) {e : En} (he : e ∈ E) : e.idx ∈ c := by
  obtain ⟨pre, post, si, op, x, hc, _⟩ := h.wit e he
  rw [hc]; simp

/-- What the abstract machine has stays, whatever is added. -/
theorem Inv.sub (hx : Fix P call ops b hv) {c : List Nat} {s : St} {E : List En} {ls : Array Bool} {ρ : Map} {a : Act} {w : World} (h : Inv P call ops b hv n0 ρ0 H0 w0 a0 sf c s E ls ρ a w) {x : Nat} {o : AObj} (hg : s.H.get x = some o) : (addH E s.H).get x = some o := by
  rw [addH_other]
  · exact hg
  · intro e he o' ha
    have h1 := h.id_ge hx he ha
    have h2 := h.bd x h1
    rw [hg] at h2
    cases h2

/-- The operands of an operation that is done early are what they will be. -/
theorem Inv.looks (hx : Fix P call ops b hv) {c : List Nat} {s : St} {E : List En} {ls : Array Bool} {ρ : Map} {a : Act} {w : World} (h : Inv P call ops b hv n0 ρ0 H0 w0 a0 sf c s E ls ρ a w)
    {pre post : List Nat} {i : Nat} {si : St} {o : Oper} (hc : c = pre ++ i :: post) (hd : drun P call ops b hv n0 pre s = some si) (ho : ops[i]? = some o)
    (hnl : ¬ ∃ e ∈ E, e.idx = i) (hrdy : ∀ k, (b.getD i 0).testBit k = true → k ∈ c → ∃ e ∈ E, e.idx = k) : ∀ t ∈ o.looksAt ops, (addT ops E s.T)[t]? = si.T[t]? := by
  intro t ht
  have hlen := drun_length hd
  by_cases hlt : t < s.T.length
  case neg =>
    have hle : s.T.length ≤ t := Nat.le_of_not_lt hlt
    rw [List.getElem?_eq_none (by rw [length_addT]; exact hle), List.getElem?_eq_none (by rw [hlen]; exact hle)]
  have hdst : ∀ {j : Nat}, dstOf ops j = some t → ∃ p, ops[j]? = some p ∧ p.dst = some t := by
    intro j hj
    unfold dstOf at hj
    cases hp : ops[j]? with
    | none => simp [hp] at hj
    | some p => exact ⟨p, rfl, by simpa [hp] using hj⟩
  have hsz : ∀ {j : Nat} {p : Oper}, ops[j]? = some p → j < ops.size := by
    intro j p hp
    obtain ⟨h, _⟩ := Array.getElem?_eq_some_iff.1 hp
    exact h
  by_cases hex : ∃ j ∈ pre, dstOf ops j = some t
  · obtain ⟨j, hj, hjt⟩ := hex
    obtain ⟨p, hp, hpd⟩ := hdst hjt
    obtain ⟨p1, p2, rfl⟩ := List.append_of_mem hj
    have hji : j ≠ i := by
      rintro rfl
      have := h.nodupC
      rw [hc] at this
      have := (List.nodup_append.1 this).2.2 j (by simp) j (by simp)
      exact this rfl
    have hb : (b.getD i 0).testBit j = true := by
      rcases looks_apart hx.looks ho hp (fun e => hji e.symm) hpd ht with hb | hb
      · exact hb
      · exfalso
        exact h.p2 p1 j (p2 ++ i :: post) (by rw [hc]; simp) i hb (by simp)
    obtain ⟨e, he, rfl⟩ := hrdy j hb (by rw [hc]; simp)
    rw [addT_mem hlt hx.dsts h.nodupE he hjt]
    obtain ⟨pre2, post2, s2, op2, x2, hc2, hd2, ho2, hl2, hr2, ha2⟩ := h.wit e he
    obtain ⟨rfl, _⟩ := split_unique h.nodupC (p1 := p1) (q1 := p2 ++ i :: post) (i := e.idx) (by rw [hc]; simp) hc2
    obtain ⟨s3, g1, g2⟩ := drun_append hd
    rw [hd2] at g1; injection g1 with g1; subst g1
    simp only [drun] at g2
    cases hst : dstep P call ops b hv n0 e.idx s2 with
    | none => simp [hst] at g2
    | some s4 =>
      simp only [hst] at g2
      obtain ⟨v4, x4, hr4, rfl⟩ := dstep_light ho2 hl2 hst
      rw [hr2] at hr4; injection hr4 with hr4; injection hr4 with hr4 _; subst hr4
      rw [hp] at ho2; injection ho2 with ho2; subst ho2
      rw [drun_T_other g2]
      · simp only [hpd]
        rw [put_get_eq]
        rw [drun_length hd2]
        exact hlt
      · intro k hk hkt
        obtain ⟨pk, hpk, hpkd⟩ := hdst hkt
        have := dst_ne hx.dsts (by simpa using hpk) (by simpa using hp) hpkd hpd
        subst this
        have hn := h.nodupC
        rw [hc] at hn
        simp only [List.append_assoc, List.cons_append] at hn
        have := (List.nodup_cons.1 (List.nodup_append.1 hn).2.1).1
        exact this (by simp [hk])
  · have hno : ∀ j ∈ pre, dstOf ops j ≠ some t := fun j hj hjt => hex ⟨j, hj, hjt⟩
    rw [drun_T_other hd hno, addT_other]
    intro e he het
    obtain ⟨p, hp, hpd⟩ := hdst het
    have hec := h.mem_c hx he
    have hei : e.idx ≠ i := fun e' => hnl ⟨e, he, e'⟩
    have hepost : e.idx ∈ post := by
      rw [hc] at hec
      simp only [List.mem_append, List.mem_cons] at hec
      rcases hec with h1 | h1 | h1
      · exact absurd het (hno _ h1)
      · exact absurd h1 hei
      · exact h1
    rcases looks_apart hx.looks ho hp (fun e' => hei e'.symm) hpd ht with hb | hb
    · exact h.p2 pre i post hc _ hb (by simp [hepost])
    · obtain ⟨e2, he2, e3⟩ := h.done e.idx (hsz hp) ((h.listed _ (hsz hp)).2 (.inr ⟨e, he, rfl⟩)) i hb (by rw [hc]; simp)
      exact hnl ⟨e2, he2, e3⟩

end
end Go.Abs
