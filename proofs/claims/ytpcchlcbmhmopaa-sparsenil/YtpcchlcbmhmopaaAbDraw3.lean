/- A region that draws its order: whatever order is drawn, the world comes to what the abstract machine says. -/
import Derived.Test.YtpcchlcbmhmopaaAbDraw2
namespace Go.Abs
set_option linter.unusedVariables false
set_option linter.unusedSimpArgs false

section
variable (P : Program) (call : CallFn) (ops : Array Oper) (b : Array Nat) (hv : List Nat) (n0 : Nat)

/-- What does not change while a region is run. -/
structure Fix : Prop where
  hcall : CallOk P call
  hmono : CallMono call
  edges : edgesOk ops = true
  closed : closedOk ops b = true
  dsts : (dstsOf ops.toList).Nodup
  looks : looksOk ops b = true
  hvs : ∀ h, h ∈ hv ↔ ∃ o, ops[h]? = some o ∧ isHeavy P o.op = true
  hvn : hv.Nodup

structure Inv (ρ0 : Map) (H0 : Heap) (w0 : World) (a0 : Act) (sf : St) (c : List Nat) (s : St) (E : List En) (ls : Array Bool) (ρ : Map) (a : Act) (w : World) : Prop where
  run : drun P call ops b hv n0 c s = some sf
  sim : Sim P.globals.size ρ (addH E s.H) w
  free : ∀ x, s.H.next ≤ x → x < sf.H.next → (∀ e ∈ E, ∀ o, e.al ≠ some (x, o)) → ρ x = none
  frel : Frel ρ (addT ops E s.T) a
  wit : ∀ e ∈ E, Wit P call ops b hv n0 c s e
  nodupE : (E.map (·.idx)).Nodup
  nodupC : c.Nodup
  inC : ∀ i ∈ c, i < ops.size
  lsize : ls.size = ops.size
  listed : ∀ i, i < ops.size → (ls.getD i true = true ↔ (i ∉ c ∨ ∃ e ∈ E, e.idx = i))
  done : ∀ i, i < ops.size → ls.getD i true = true → ∀ k, (b.getD i 0).testBit k = true → k ∈ c → ∃ e ∈ E, e.idx = k
  p2 : ∀ pre i post, c = pre ++ i :: post → ∀ k, (b.getD i 0).testBit k = true → k ∉ i :: post
  p1 : ∀ pre i post o, c = pre ++ i :: post → ops[i]? = some o → isHeavy P o.op = true → ∀ k ∈ pre, (b.getD i 0).testBit k = true
  snap : ∃ S r, s.snaps = S :: r ∧ ∀ x, x < n0 → s.H.get x = S.get x
  cnt : s.snaps.length = 1 + (hv.filter fun h => decide (h ∉ c)).length
  base : n0 ≤ s.H.next
  n0eq : n0 = H0.next
  bd : Wf s.H
  ext : Ext ρ0 ρ
  out : ∀ x, (x < H0.next ∨ sf.H.next ≤ x) → ρ x = ρ0 x
  dom : ∀ x, H0.get x = none → (x < H0.next ∨ sf.H.next ≤ x) → (addH E s.H).get x = none
  ro : ∀ x o, (addH E s.H).get x = some o → o.live = true → o.own = false → H0.get x = some o
  kp : Keeps ρ0 H0 w0 ρ (addH E s.H) w
  dfr : a.defers = a0.defers

end

section
variable {P : Program} {call : CallFn} {ops : Array Oper} {b : Array Nat} {hv : List Nat} {n0 : Nat}
variable {ρ0 : Map} {H0 : Heap} {w0 : World} {a0 : Act} {sf : St}

theorem Inv.idsApart (hx : Fix P call ops b hv) {c : List Nat} {s : St} {E : List En} {listed : Array Bool} {ρ : Map} {a : Act} {w : World} (h : Inv P call ops b hv n0 ρ0 H0 w0 a0 sf c s E listed ρ a w) : IdsApart E := by
  intro e he e' he' id o o' h1 h2
  have hi := Wit.ids (hmono := hx.hmono) h.nodupC (h.wit e he) (h.wit e' he') h1 h2 ⟨sf, h.run⟩
  -- one number, one entry
  have key : ∀ {E : List En}, (E.map (·.idx)).Nodup → e ∈ E → e' ∈ E → e = e' := by
    intro E hn h1 h2
    induction E with
    | nil => cases h1
    | cons x r ih =>
      simp only [List.map_cons, List.nodup_cons] at hn
      simp only [List.mem_cons] at h1 h2
      rcases h1 with rfl | h1
      · rcases h2 with rfl | h2
        · rfl
        · exact absurd (List.mem_map.2 ⟨e', h2, hi.symm⟩) hn.1
      · rcases h2 with rfl | h2
        · exact absurd (List.mem_map.2 ⟨e, h1, hi⟩) hn.1
        · exact ih hn.2 h1 h2
  exact key h.nodupE he he'

theorem nodup_filter_idx {E : List En} (h : (E.map (·.idx)).Nodup) (f : Nat) : ((E.filter fun e => e.idx != f).map (·.idx)).Nodup := by
  induction E with
  | nil => exact List.nodup_nil
  | cons x r ih =>
    simp only [List.map_cons, List.nodup_cons] at h
    simp only [List.filter_cons]
    split
    · simp only [List.map_cons, List.nodup_cons]
      refine ⟨fun hm => h.1 ?_, ih h.2⟩
      obtain ⟨y, hy, e⟩ := List.mem_map.1 hm
      exact List.mem_map.2 ⟨y, (List.mem_filter.1 hy).1, e⟩
    · exact ih h.2

/-- The abstract machine comes to what the world has done early. -/
theorem Inv.catch (hx : Fix P call ops b hv) {f : Nat} {c : List Nat} {s : St} {E : List En} {listed : Array Bool} {ρ : Map} {a : Act} {w : World}
    (h : Inv P call ops b hv n0 ρ0 H0 w0 a0 sf (f :: c) s E listed ρ a w) {e : En} (he : e ∈ E) (hef : e.idx = f) :
    ∃ s', Inv P call ops b hv n0 ρ0 H0 w0 a0 sf c s' (E.filter fun e => e.idx != f) listed ρ a w := by
  subst hef
  have hia := h.idsApart hx
  have hnc := List.nodup_cons.1 h.nodupC
  obtain ⟨pre, post, si, op, x, hc, hd, ho, hl, hr, ha⟩ := h.wit e he
  obtain ⟨rfl, rfl⟩ := split_unique h.nodupC (p1 := []) (q1 := c) rfl hc
  simp only [drun, Option.some.injEq] at hd
  subst hd
  have hrun := h.run
  simp only [drun] at hrun
  cases hst : dstep P call ops b hv n0 e.idx s with
  | none => simp [hst] at hrun
  | some s1 =>
    simp only [hst] at hrun
    obtain ⟨v2, x2, hr2, rfl⟩ := dstep_light ho hl hst
    rw [hr] at hr2
    injection hr2 with hr2; injection hr2 with e1 e2; subst e1; subst e2
    have hdst : dstOf ops e.idx = op.dst := by simp [dstOf, ho]
    have hmem : ∀ y, y ∈ E.filter (fun y => y.idx != e.idx) ↔ y ∈ E ∧ y.idx ≠ e.idx := by intro y; simp [List.mem_filter]
    have hT : addT ops (E.filter fun y => y.idx != e.idx) (put s.T op.dst e.val) = addT ops E s.T := by
      apply List.ext_getElem?
      intro t
      by_cases hlt : t < s.T.length
      · by_cases hex : ∃ y ∈ E, dstOf ops y.idx = some t
        · obtain ⟨y, hy, hyt⟩ := hex
          rw [addT_mem hlt hx.dsts h.nodupE hy hyt]
          by_cases hye : y.idx = e.idx
          · have hye' : y = e := by
              have : ∀ {E : List En}, (E.map (·.idx)).Nodup → y ∈ E → e ∈ E → y = e := by
                intro E hn h1 h2
                induction E with
                | nil => cases h1
                | cons z r ih =>
                  simp only [List.map_cons, List.nodup_cons] at hn
                  simp only [List.mem_cons] at h1 h2
                  rcases h1 with rfl | h1
                  · rcases h2 with rfl | h2
                    · rfl
                    · exact absurd (List.mem_map.2 ⟨e, h2, hye.symm⟩) hn.1
                  · rcases h2 with rfl | h2
                    · exact absurd (List.mem_map.2 ⟨y, h1, hye⟩) hn.1
                    · exact ih hn.2 h1 h2
              exact this h.nodupE hy he
            subst hye'
            rw [addT_other ?_, ← hdst, hyt, put_get_eq hlt]
            intro z hz hzt
            obtain ⟨hz1, hz2⟩ := (hmem z).1 hz
            apply hz2
            unfold dstOf at hzt hyt
            cases g1 : ops[z.idx]? with
            | none => simp [g1] at hzt
            | some o1 =>
              cases g2 : ops[y.idx]? with
              | none => simp [g2] at hyt
              | some o2 =>
                simp only [g1, Option.bind_some] at hzt
                simp only [g2, Option.bind_some] at hyt
                exact dst_ne hx.dsts (by simpa using g1) (by simpa using g2) hzt hyt
          · exact addT_mem (by rw [length_put]; exact hlt) hx.dsts (nodup_filter_idx h.nodupE _) ((hmem y).2 ⟨hy, hye⟩) hyt
        · have hno : ∀ y ∈ E, dstOf ops y.idx ≠ some t := fun y hy hyt => hex ⟨y, hy, hyt⟩
          rw [addT_other hno, addT_other fun y hy => hno y ((hmem y).1 hy).1, ← hdst, put_get_ne (hno e he)]
      · rw [List.getElem?_eq_none (by rw [length_addT, length_put]; omega), List.getElem?_eq_none (by rw [length_addT]; omega)]
    have hia' : IdsApart (E.filter fun y => y.idx != e.idx) := fun y hy z hz => hia y ((hmem y).1 hy).1 z ((hmem z).1 hz).1
    have hH : ∀ y, (addH (E.filter fun y => y.idx != e.idx) (pushO s.H x)).get y = (addH E s.H).get y := by
      intro y
      by_cases hex : ∃ z ∈ E, ∃ o, z.al = some (y, o)
      · obtain ⟨z, hz, o, hzo⟩ := hex
        rw [addH_mem hia hz hzo]
        by_cases hze : z.idx = e.idx
        · -- it is e itself
          have hxo : ∃ o', e.al = some (y, o') ∧ o' = o := by
            have : z = e := by
              have : ∀ {E : List En}, (E.map (·.idx)).Nodup → z ∈ E → e ∈ E → z = e := by
                intro E hn h1 h2
                induction E with
                | nil => cases h1
                | cons q r ih =>
                  simp only [List.map_cons, List.nodup_cons] at hn
                  simp only [List.mem_cons] at h1 h2
                  rcases h1 with rfl | h1
                  · rcases h2 with rfl | h2
                    · rfl
                    · exact absurd (List.mem_map.2 ⟨e, h2, hze.symm⟩) hn.1
                  · rcases h2 with rfl | h2
                    · exact absurd (List.mem_map.2 ⟨z, h1, hze⟩) hn.1
                    · exact ih hn.2 h1 h2
              exact this h.nodupE hz he
            subst this
            exact ⟨o, hzo, rfl⟩
          obtain ⟨o', hea, rfl⟩ := hxo
          cases x with
          | none => rw [ha] at hea; cases hea
          | some q =>
            rw [ha] at hea
            simp only [Option.map_some, Option.some.injEq, Prod.mk.injEq] at hea
            obtain ⟨rfl, rfl⟩ := hea
            rw [addH_other]
            · simp only [pushO]; rw [Heap.get_push, if_pos rfl]
            · intro z' hz' o'' hzo''
              obtain ⟨g1, g2⟩ := (hmem z').1 hz'
              have : e = z' := hia e he z' g1 _ _ _ (by rw [ha]; rfl) hzo''
              exact g2 (by rw [this])
        · exact addH_mem hia' ((hmem z).2 ⟨hz, hze⟩) hzo
      · have hno : ∀ z ∈ E, ∀ o, z.al ≠ some (y, o) := fun z hz o hzo => hex ⟨z, hz, o, hzo⟩
        rw [addH_other hno, addH_other fun z hz => hno z ((hmem z).1 hz).1]
        cases x with
        | none => rfl
        | some q =>
          simp only [pushO]
          rw [Heap.get_push, if_neg]
          rintro rfl
          exact hno e he q (by rw [ha]; rfl)
    have hnext : s.H.next ≤ (pushO s.H x).next := by cases x <;> simp [pushO]
    refine ⟨_, hrun, h.sim.congr hH rfl, ?_, by rw [hT]; exact h.frel, ?_, nodup_filter_idx h.nodupE _, hnc.2, fun i hi => h.inC i (by simp [hi]), h.lsize, ?_, ?_, ?_, ?_, ?_, ?_, Nat.le_trans h.base hnext, h.n0eq, ?_,
      h.ext, h.out, fun y hy hb => by rw [hH]; exact h.dom y hy hb, fun y o hy => by rw [hH] at hy; exact h.ro y o hy, h.kp.congr hH, h.dfr⟩
    · intro y hy hy' hno
      refine h.free y (by simp only at hy; omega) hy' ?_
      intro z hz o hzo
      by_cases hze : z.idx = e.idx
      · have hzw := h.wit z hz
        obtain ⟨pre2, post2, si2, op2, x2, hc2, hd2, ho2, hl2, hr2, ha2⟩ := hzw
        obtain ⟨rfl, rfl⟩ := split_unique h.nodupC (p1 := []) (q1 := c) (i := z.idx) (by rw [hze]; rfl) hc2
        simp only [drun, Option.some.injEq] at hd2
        subst hd2
        rw [hze, ho] at ho2; injection ho2 with ho2; subst ho2
        rw [hze, hr] at hr2; injection hr2 with hr2; injection hr2 with _ hr2; subst hr2
        rw [ha2] at hzo
        cases x with
        | none => cases hzo
        | some q =>
          simp only [Option.map_some, Option.some.injEq, Prod.mk.injEq] at hzo
          obtain ⟨rfl, _⟩ := hzo
          simp [pushO] at hy
          omega
      · exact hno z ((hmem z).2 ⟨hz, hze⟩) o hzo
    · intro y hy
      obtain ⟨g1, g2⟩ := (hmem y).1 hy
      obtain ⟨pre2, post2, si2, op2, x2, hc2, hd2, ho2, hl2, hr2, ha2⟩ := h.wit y g1
      cases pre2 with
      | nil =>
        simp only [List.nil_append, List.cons.injEq] at hc2
        exact absurd hc2.1.symm g2
      | cons p ps =>
        simp only [List.cons_append, List.cons.injEq] at hc2
        obtain ⟨rfl, hc2⟩ := hc2
        simp only [drun, hst] at hd2
        exact ⟨ps, post2, si2, op2, x2, hc2, hd2, ho2, hl2, hr2, ha2⟩
    · intro i hi
      rw [h.listed i hi]
      constructor
      · rintro (hn | ⟨y, hy, rfl⟩)
        · left; intro hm; exact hn (by simp [hm])
        · by_cases hye : y.idx = e.idx
          · left; rw [hye]; exact hnc.1
          · exact .inr ⟨y, (hmem y).2 ⟨hy, hye⟩, rfl⟩
      · rintro (hn | ⟨y, hy, rfl⟩)
        · by_cases hie : i = e.idx
          · exact .inr ⟨e, he, hie.symm⟩
          · left; simp [hie, hn]
        · exact .inr ⟨y, ((hmem y).1 hy).1, rfl⟩
    · intro i hi hli k hk hkc
      obtain ⟨y, hy, rfl⟩ := h.done i hi hli k hk (by simp [hkc])
      refine ⟨y, (hmem y).2 ⟨hy, ?_⟩, rfl⟩
      intro hye
      rw [hye] at hkc
      exact hnc.1 hkc
    · intro pre i post e' k hk
      exact h.p2 (e.idx :: pre) i post (by rw [e']; rfl) k hk
    · intro pre i post o e' ho' hh k hk
      exact h.p1 (e.idx :: pre) i post o (by rw [e']; rfl) ho' hh k (by simp [hk])
    · obtain ⟨S, r, g1, g2⟩ := h.snap
      refine ⟨S, r, g1, fun y hy => ?_⟩
      rw [← g2 y hy]
      cases x with
      | none => rfl
      | some q =>
        simp only [pushO]
        rw [Heap.get_push, if_neg]
        have := h.base
        omega
    · simp only
      rw [h.cnt]
      congr 2
      apply List.filter_congr
      intro k hk
      have hke : k ≠ e.idx := by
        rintro rfl
        obtain ⟨o', ho', hh'⟩ := (hx.hvs e.idx).1 hk
        rw [ho] at ho'; injection ho' with ho'; subst ho'
        rw [hl] at hh'; cases hh'
      simp [hke]

    · intro y hy
      have := h.bd y (by simp only at hy; omega)
      cases x with
      | none => exact this
      | some q =>
        simp only [pushO] at hy ⊢
        rw [Heap.get_push, if_neg (by simp at hy; omega)]
        exact this

end
end Go.Abs
