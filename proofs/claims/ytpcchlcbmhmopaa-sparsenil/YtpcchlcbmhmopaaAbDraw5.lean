/- A region that draws its order: the steps, and the whole. -/
import Derived.Test.YtpcchlcbmhmopaaAbDraw4
namespace Go.Abs
set_option linter.unusedVariables false
set_option linter.unusedSimpArgs false

section
variable {P : Program} {call : CallFn} {ops : Array Oper} {b : Array Nat} {hv : List Nat} {n0 : Nat}
variable {ρ0 : Map} {H0 : Heap} {w0 : World} {a0 : Act} {sf : St} {Q : Exit → Act → World → Prop}

/-- What is read early is what will be read. -/
theorem Inv.reads (hx : Fix P call ops b hv) {c : List Nat} {s : St} {E : List En} {ls : Array Bool} {ρ : Map} {a : Act} {w : World} (h : Inv P call ops b hv n0 ρ0 H0 w0 a0 sf c s E ls ρ a w)
    {pre post : List Nat} {i : Nat} {si : St} {o : Oper} (hc : c = pre ++ i :: post) (hd : drun P call ops b hv n0 pre s = some si) (ho : ops[i]? = some o) (hli : isHeavy P o.op = false)
    (hnl : ¬ ∃ e ∈ E, e.idx = i) (hrdy : ∀ k, (b.getD i 0).testBit k = true → k ∈ c → ∃ e ∈ E, e.idx = k) (hsf : si.H.next ≤ sf.H.next) {bs : List Nat}
    (hbs : bs.all (fun x => decide (x < si.H.next)) = true) (hpl : ∀ x ∈ bs, ∃ p, ρ x = some p)
    (hck : (si.snaps.length - (hv.filter fun h => (b.getD i 0).testBit h).length ≤ 1 || bs.all (sameIn si.H n0 (si.snaps.take (si.snaps.length - (hv.filter fun h => (b.getD i 0).testBit h).length)))) = true)
    {os : List AObj} (hos : mapOpt si.H.get bs = some os) : mapOpt (addH E s.H).get bs = some os := by
  have key : ∀ x ∈ bs, ∀ y, si.H.get x = some y → (addH E s.H).get x = some y := by
    intro x hxb y hy
    have hlo : (hv.filter fun h => (b.getD i 0).testBit h).length ≤ (hv.filter fun h => decide (h ∉ c)).length := by
      apply filter_le
      intro k hk hb
      simp only [decide_eq_true_eq]
      intro hkc
      obtain ⟨e, he, rfl⟩ := hrdy k hb hkc
      obtain ⟨pre2, post2, s2, op2, x2, hc2, hd2, ho2, hl2, _⟩ := h.wit e he
      obtain ⟨o', ho', hh'⟩ := (hx.hvs e.idx).1 hk
      rw [ho2] at ho'; injection ho' with ho'; subst ho'
      rw [hl2] at hh'; cases hh'
    have hcnt := h.cnt
    obtain ⟨nw, hnw, hlight⟩ := drun_snaps hx hd
    simp only [Bool.or_eq_true, decide_eq_true_eq] at hck
    rcases hck with hm | hall
    · have hn0 : nw = [] := by
        apply List.eq_nil_of_length_eq_zero
        rw [hnw] at hm
        simp only [List.length_append] at hm
        omega
      simp only [List.all_eq_true, decide_eq_true_eq] at hbs
      rcases light_path hx.hmono hd (hlight hn0) x y (hbs x hxb) hy with ⟨_, g2⟩ | ⟨p1, j, p2, sj, oj, v, z, e, hdj, hoj, hlj, hrj, ex, ey⟩
      · exact h.sub hx g2
      · subst ey; subst ex
        have hge : s.H.next ≤ sj.H.next := drun_mono hx.hmono hdj
        have hlt : sj.H.next < sf.H.next := Nat.lt_of_lt_of_le (hbs _ hxb) hsf
        have hW : Wit P call ops b hv n0 c s ⟨j, v, some (sj.H.next, y)⟩ := ⟨p1, p2 ++ i :: post, sj, oj, some y, by rw [hc, e]; simp, hdj, hoj, hlj, hrj, rfl⟩
        by_cases hex : ∃ e ∈ E, ∃ o, e.al = some (sj.H.next, o)
        · obtain ⟨e1, he1, o1, ha1⟩ := hex
          have hid := Wit.ids (hmono := hx.hmono) h.nodupC (h.wit e1 he1) hW ha1 rfl ⟨sf, h.run⟩
          simp only at hid
          obtain ⟨pre2, post2, s2, op2, x2, hc2, hd2, ho2, hl2, hr2, ha2⟩ := h.wit e1 he1
          rw [hid] at hc2 ho2 hr2
          obtain ⟨rfl, _⟩ := split_unique h.nodupC (p1 := p1) (q1 := p2 ++ i :: post) (i := j) (by rw [hc, e]; simp) hc2
          rw [hdj] at hd2; injection hd2 with hd2; subst hd2
          rw [hoj] at ho2; injection ho2 with ho2; subst ho2
          rw [hrj] at hr2; injection hr2 with hr2; injection hr2 with _ hr2; subst hr2
          exact addH_mem (h.idsApart hx) he1 ha2
        · obtain ⟨p, hp⟩ := hpl _ hxb
          rw [h.free _ hge hlt fun e he o ha => hex ⟨e, he, o, ha⟩] at hp
          cases hp
    · obtain ⟨S, r, hS, hSg⟩ := h.snap
      simp only [List.all_eq_true] at hall
      have h1 := hall x hxb
      unfold sameIn at h1
      simp only [Bool.and_eq_true, decide_eq_true_eq, hy] at h1
      obtain ⟨hxn, h2⟩ := h1
      rw [List.all_eq_true] at h2
      have hSmem : S ∈ si.snaps.take (si.snaps.length - (hv.filter fun h => (b.getD i 0).testBit h).length) := by
        rw [hnw, hS]
        apply List.mem_of_getElem? (i := nw.length)
        rw [List.getElem?_take, if_pos]
        · simp
        · rw [hS] at hcnt
          simp only [List.length_append, List.length_cons] at hcnt ⊢
          omega
      have h3 := h2 S hSmem
      cases hSx : S.get x with
      | none => simp [hSx] at h3
      | some o' =>
        simp only [hSx] at h3
        have := AObj.eq_of_beq _ _ h3
        subst this
        exact h.sub hx (by rw [hSg x hxn]; exact hSx)
  clear hbs hpl hck
  induction bs generalizing os with
  | nil => exact hos
  | cons x xs ih =>
    simp only [mapOpt] at hos ⊢
    cases hy : si.H.get x with
    | none => simp [hy] at hos
    | some y =>
      simp only [hy] at hos
      rw [key x (by simp) y hy]
      cases hr : mapOpt si.H.get xs with
      | none => simp [hr] at hos
      | some ys =>
        simp only [hr] at hos ⊢
        rw [ih (os := ys) hr fun z hz => key z (by simp [hz])]
        exact hos

theorem listed_set {ls : Array Bool} {i j : Nat} (hi : i < ls.size) : (ls.setIfInBounds i true).getD j true = true ↔ (j = i ∨ ls.getD j true = true) := by
  rw [Array.getD_eq_getD_getElem?, Array.getD_eq_getD_getElem?, Array.getElem?_setIfInBounds]
  by_cases e : i = j
  · subst e; simp [hi]
  · rw [if_neg e]
    constructor
    · exact .inr
    · rintro (h | h)
      · exact absurd h.symm e
      · exact h

/-- The book-keeping of an operation that is done early. -/
theorem Inv.addE (hx : Fix P call ops b hv) {c : List Nat} {s : St} {E : List En} {ls : Array Bool} {ρ : Map} {a : Act} {w : World} (h : Inv P call ops b hv n0 ρ0 H0 w0 a0 sf c s E ls ρ a w)
    {e : En} {ρ' : Map} {a' : Act} {w' : World} (hw : Wit P call ops b hv n0 c s e) (hnl : ¬ ∃ x ∈ E, x.idx = e.idx) (hrdy : ∀ k, (b.getD e.idx 0).testBit k = true → k ∈ c → ∃ x ∈ E, x.idx = k)
    (hi : e.idx < ops.size)
    (h1 : Sim P.globals.size ρ' (addH (e :: E) s.H) w') (h2 : ∀ x, s.H.next ≤ x → x < sf.H.next → (∀ y ∈ e :: E, ∀ o, y.al ≠ some (x, o)) → ρ' x = none)
    (h3 : Frel ρ' (addT ops (e :: E) s.T) a') (h4 : Ext ρ0 ρ') (h5 : ∀ x, (x < H0.next ∨ sf.H.next ≤ x) → ρ' x = ρ0 x) (h6 : ∀ x, H0.get x = none → (x < H0.next ∨ sf.H.next ≤ x) → (addH (e :: E) s.H).get x = none)
    (h7 : ∀ x o, (addH (e :: E) s.H).get x = some o → o.live = true → o.own = false → H0.get x = some o) (h8 : Keeps ρ0 H0 w0 ρ' (addH (e :: E) s.H) w') (h9 : a'.defers = a0.defers) :
    Inv P call ops b hv n0 ρ0 H0 w0 a0 sf c s (e :: E) (ls.setIfInBounds e.idx true) ρ' a' w' := by
  refine ⟨h.run, h1, h2, h3, ?_, ?_, h.nodupC, h.inC, by simpa using h.lsize, ?_, ?_, h.p2, h.p1, h.snap, h.cnt, h.base, h.n0eq, h.bd, h4, h5, h6, h7, h8, h9⟩
  · intro x hxm
    simp only [List.mem_cons] at hxm
    rcases hxm with rfl | hxm
    · exact hw
    · exact h.wit x hxm
  · simp only [List.map_cons, List.nodup_cons]
    refine ⟨fun hm => ?_, h.nodupE⟩
    obtain ⟨x, hx1, hx2⟩ := List.mem_map.1 hm
    exact hnl ⟨x, hx1, hx2⟩
  · intro j hj
    rw [listed_set (by rw [h.lsize]; exact hi), h.listed j hj]
    constructor
    · rintro (rfl | h1 | ⟨x, hx1, hx2⟩)
      · exact .inr ⟨e, by simp, rfl⟩
      · exact .inl h1
      · exact .inr ⟨x, by simp [hx1], hx2⟩
    · rintro (h1 | ⟨x, hx1, hx2⟩)
      · exact .inr (.inl h1)
      · simp only [List.mem_cons] at hx1
        rcases hx1 with rfl | hx1
        · exact .inl hx2.symm
        · exact .inr (.inr ⟨x, hx1, hx2⟩)
  · intro j hj hlj k hk hkc
    rw [listed_set (by rw [h.lsize]; exact hi)] at hlj
    rcases hlj with rfl | hlj
    · obtain ⟨x, hx1, hx2⟩ := hrdy k hk hkc
      exact ⟨x, by simp [hx1], hx2⟩
    · obtain ⟨x, hx1, hx2⟩ := h.done j hj hlj k hk hkc
      exact ⟨x, by simp [hx1], hx2⟩

/-- A light operation done when the order has it, early or not. -/
theorem Inv.early (hx : Fix P call ops b hv) {c : List Nat} {s : St} {E : List En} {ls : Array Bool} {ρ : Map} {a : Act} {w : World} (h : Inv P call ops b hv n0 ρ0 H0 w0 a0 sf c s E ls ρ a w)
    {i : Nat} {o : Oper} (ho : ops[i]? = some o) (hli : isHeavy P o.op = false) (hnl : ls.getD i true = false) (hrdy : ∀ k, (b.getD i 0).testBit k = true → k ∈ c → ∃ e ∈ E, e.idx = k) {K : Act → World → Prop}
    (hK : ∀ E' ρ' a' w', Inv P call ops b hv n0 ρ0 H0 w0 a0 sf c s E' (ls.setIfInBounds i true) ρ' a' w' → K a' w') : wpOp P ops Q i K a w := by
  have hi : i < ops.size := by obtain ⟨h, _⟩ := Array.getElem?_eq_some_iff.1 ho; exact h
  have hnot : ¬ (i ∉ c ∨ ∃ e ∈ E, e.idx = i) := by rw [← h.listed i hi, hnl]; simp
  have hic : i ∈ c := by
    rcases Classical.em (i ∈ c) with h | h
    · exact h
    · exact absurd (.inl h) hnot
  have hne : ¬ ∃ e ∈ E, e.idx = i := fun h => hnot (.inr h)
  obtain ⟨pre, post, hc⟩ := List.append_of_mem hic
  have hrun := h.run
  rw [hc] at hrun
  obtain ⟨si, hd, hrun2⟩ := drun_append hrun
  simp only [drun] at hrun2
  cases hst : dstep P call ops b hv n0 i si with
  | none => simp [hst] at hrun2
  | some s2 =>
    simp only [hst] at hrun2
    obtain ⟨v, x, hres, rfl⟩ := dstep_light ho hli hst
    have hlook := h.looks hx hc hd ho hne hrdy
    have hdst : dstOf ops i = o.dst := by simp [dstOf, ho]
    have hsinext : s.H.next ≤ si.H.next := drun_mono hx.hmono hd
    have hpushn : (pushO si.H x).next ≤ sf.H.next := by have := drun_mono hx.hmono hrun2; exact this
    have hsisf : si.H.next ≤ sf.H.next := by
      refine Nat.le_trans ?_ hpushn
      cases x <;> simp [pushO]
    unfold wpOp
    rw [ho]
    simp only
    rw [wanted_rel h.frel, wanted_congr hlook]
    unfold lightRes at hres
    by_cases hwt : wantedA ops si.T o = true
    · rw [if_pos hwt]
      rw [if_pos hwt] at hres
      left
      have hsemeq : sem P call (addT ops E s.T) o.op = sem P call si.T o.op := sem_congr (ev_congr hlook)
      -- a value that leaves memory as it is
      have nomem : ∀ (v : AV), x = none → Does P ρ (addH E s.H) w v (addH E s.H) (execOp a.eval o) →
          (∀ (hv' : lightRes P call ops b hv n0 i o si = some (v, none)), o.wp P a w K Q) := by
        intro v hxn hdo hlr
        refine wp_of_delivers hdo ?_
        rintro u w1 ⟨ρ1, hg, hu⟩
        have hρ : ρ1 = ρ := by
          funext y
          exact hg.out y (Nat.lt_or_ge y _)
        subst hρ
        refine hK (⟨i, v, none⟩ :: E) ρ1 _ w1 (h.addE hx ⟨pre, post, si, o, none, hc, hd, ho, hli, hlr, rfl⟩ hne hrdy hi hg.sim ?_ ?_ h.ext h.out h.dom h.ro (h.kp.trans hg.keeps) ?_)
        · intro y h1 h2 h3
          exact h.free y h1 h2 fun e he => h3 e (by simp [he])
        · simp only [addT, hdst]
          exact put_rel h.frel o.dst hu
        · rw [put_defers]; exact h.dfr
      split at hres
      · cases hres
      · cases hres
      · rename_i v1 hs
        simp only [Option.some.injEq, Prod.mk.injEq] at hres
        obtain ⟨rfl, rfl⟩ := hres
        refine nomem v1 rfl ?_ (by unfold lightRes; rw [if_pos hwt, hs])
        exact sem_sound hx.hcall (hsemeq.trans hs) h.frel h.sim.glob (addH E s.H) w v1 (addH E s.H) h.sim rfl (fun y hy hy' => by omega) (by intro k e; cases e)
      · rename_i y mk hs
        simp only [Option.some.injEq, Prod.mk.injEq] at hres
        obtain ⟨rfl, rfl⟩ := hres
        simp only [pushO, Heap.next_push] at hpushn
        have hW : Wit P call ops b hv n0 c s ⟨i, mk si.H.next, some (si.H.next, y)⟩ :=
          ⟨pre, post, si, o, some y, hc, hd, ho, hli, by unfold lightRes; rw [if_pos hwt, hs], rfl⟩
        have hnoid : ∀ e ∈ E, ∀ o', e.al ≠ some (si.H.next, o') := by
          intro e he o' ha
          exact hne ⟨e, he, Wit.ids (hmono := hx.hmono) h.nodupC (h.wit e he) hW ha rfl ⟨sf, h.run⟩⟩
        let Hx : Heap := { next := si.H.next, tree := (addH E s.H).tree }
        have hHx : ∀ z, Hx.get z = (addH E s.H).get z := fun z => rfl
        have hsimx : Sim P.globals.size ρ Hx w := h.sim.congr hHx rfl
        have hdo := sem_sound hx.hcall (hsemeq.trans hs) h.frel h.sim.glob Hx w (mk si.H.next) (Hx.push y) hsimx rfl
          (fun z hz hz' => by
            have : z = si.H.next := by simp [Hx] at hz hz'; omega
            subst this
            exact h.free _ hsinext (by omega) hnoid) (by intro k e; cases e)
        refine wp_of_delivers hdo ?_
        rintro u w1 ⟨ρ1, hg, hu⟩
        have hget : ∀ z, (addH (⟨i, mk si.H.next, some (si.H.next, y)⟩ :: E) s.H).get z = (Hx.push y).get z := by
          intro z
          simp only [addH]
          rw [Heap.get_set, Heap.get_push]
          rfl
        have hold : ∀ z, z ≠ si.H.next → ρ1 z = ρ z := by
          intro z hz
          refine hg.out z ?_
          simp [Hx]; omega
        have hbase := h.base
        have hneq := h.n0eq
        refine hK (⟨i, mk si.H.next, some (si.H.next, y)⟩ :: E) ρ1 _ w1 (h.addE hx hW hne hrdy hi (hg.sim.congr hget rfl) ?_ ?_ (h.ext.trans hg.ext) ?_ ?_ ?_ ?_ ?_)
        · intro z h1 h2 h3
          have hz : z ≠ si.H.next := by rintro rfl; exact h3 ⟨i, mk si.H.next, some (si.H.next, y)⟩ (by simp) y rfl
          rw [hold z hz]
          exact h.free z h1 h2 fun e he => h3 e (by simp [he])
        · simp only [addT, hdst]
          exact put_rel (VRels.mono hg.ext _ _ h.frel) o.dst hu
        · intro z hz
          have : z ≠ si.H.next := by omega
          rw [hold z this]
          exact h.out z hz
        · intro z h1 h2
          rw [hget, Heap.get_push, if_neg (by simp [Hx]; omega), hHx]
          exact h.dom z h1 h2
        · intro z o' hz hl hw
          rw [hget] at hz
          have := hg.ro z o' hz hl hw
          rw [hHx] at this
          exact h.ro z o' this hl hw
        · exact h.kp.trans ((hg.keeps.congr hget).congr_left fun z => (hHx z).symm)
        · rw [put_defers]; exact h.dfr
      · rename_i bs k hs
        simp only at hres
        split at hres
        · rename_i hck
          simp only [Bool.and_eq_true] at hck
          cases hos : mapOpt si.H.get bs with
          | none => simp [hos] at hres
          | some os =>
            cases hk : k os with
            | none => simp [hos, hk] at hres
            | some v1 =>
              simp only [hos, hk, Option.some.injEq, Prod.mk.injEq] at hres
              obtain ⟨rfl, rfl⟩ := hres
              have hpl := reads_placed (hsemeq.trans hs) h.frel h.sim.glob
              have hread := h.reads hx hc hd ho hli hne hrdy hsisf hck.1 hpl hck.2 hos
              refine nomem v1 rfl ?_ (by unfold lightRes; rw [if_pos hwt, hs]; simp only; rw [if_pos (by simp only [Bool.and_eq_true]; exact hck), hos]; simp only [hk])
              exact sem_sound hx.hcall (hsemeq.trans hs) h.frel h.sim.glob (addH E s.H) w v1 (addH E s.H) h.sim (by simp only [Sm.run, hread, hk]) (fun y hy hy' => by omega) (by intro k e; cases e)
        · cases hres
    · rw [if_neg hwt]
      rw [if_neg hwt] at hres
      simp only [Option.some.injEq, Prod.mk.injEq] at hres
      obtain ⟨rfl, rfl⟩ := hres
      refine hK (⟨i, .undef, none⟩ :: E) ρ _ w (h.addE hx ⟨pre, post, si, o, none, hc, hd, ho, hli, by unfold lightRes; rw [if_neg hwt], rfl⟩ hne hrdy hi h.sim ?_ ?_ h.ext h.out h.dom h.ro h.kp ?_)
      · intro y h1 h2 h3
        exact h.free y h1 h2 fun e he => h3 e (by simp [he])
      · simp only [addT, hdst]
        exact put_rel h.frel o.dst (VRel.undef ρ)
      · rw [put_defers]; exact h.dfr

end
end Go.Abs
