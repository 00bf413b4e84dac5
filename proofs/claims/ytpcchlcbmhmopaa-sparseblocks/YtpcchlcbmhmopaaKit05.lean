/- Texts on the abstract machine, joined. -/
import Derived.Test.YtpcchlcbmhmopaaKit04
import Derived.LoopN
import Derived.Test.YtpcchlcbmhmopaaKit01

/- A region that draws its order: the steps, and the whole. -/
namespace Go.Abs
set_option linter.unusedVariables false
set_option linter.unusedSimpArgs false

section
variable {P : Program} {call : CallFn} {ops : Array Oper} {b : Array Nat} {hv : List Nat} {n0 : Nat}
variable {ρ0 : Map} {H0 : Heap} {w0 : World} {a0 : Act} {sf : St} {Q : Exit → Act → World → Prop}

/-- What is read early is what will be read. -/
theorem Inv.reads (hx : Fix P call ops b hv) {c : List Nat} {s : St} {E : List En} {ls : Array Bool} {ρ : Map} {a : Act} {w : World} (h : Inv P call ops b hv n0 ρ0 H0 w0 a0 sf c s E ls ρ a w)
    {pre post : List Nat} {i : Nat} {si : St} {o : Oper} (hc : c = pre ++ i :: post) (hd : drun P call ops b hv n0 pre s = some si) (ho : ops[i]? = some o) (hli : isHeavy P o.op = false)
    (hnl : ¬ ∃ e ∈ E, e.idx = i) (hrdy : ∀ k, (b.getD i 0).testBit k = true → k ∈ c → ∃ e ∈ E, e.idx = k) (hsf : si.H.next ≤ sf.H.next) {bs : List Nat}
    (hbs : bs.all (fun x => decide (x < si.H.next)) = true) (hpl : ∀ x ∈ bs, ∃ p, ρ x = some p)
    (hck : (si.snaps.length - (hv.filter fun h => (b.getD i 0).testBit h).length ≤ 1 || bs.all (sameIn si.H n0 (si.snaps.take (si.snaps.length - (hv.filter fun h => (b.getD i 0).testBit h).length)))) = true)
    {os : List AObj} (hos : mapOpt si.H.get bs = some os) : mapOpt (addH E s.H).get bs = some os := by
  have key : ∀ x ∈ bs, ∀ y, si.H.get x = some y → (addH E s.H).get x = some y := by
    intro x hxb y hy
    have hlo : (hv.filter fun h => (b.getD i 0).testBit h).length ≤ (hv.filter fun h => decide (h ∉ c)).length := by
      apply filter_le
      intro k hk hb
      simp only [decide_eq_true_eq]
      intro hkc
      obtain ⟨e, he, rfl⟩ := hrdy k hb hkc
      obtain ⟨pre2, post2, s2, op2, x2, hc2, hd2, ho2, hl2, _⟩ := h.wit e he
      obtain ⟨o', ho', hh'⟩ := (hx.hvs e.idx).1 hk
      rw [ho2] at ho'; injection ho' with ho'; subst ho'
      rw [hl2] at hh'; cases hh'
    have hcnt := h.cnt
    obtain ⟨nw, hnw, hlight⟩ := drun_snaps hx hd
    simp only [Bool.or_eq_true, decide_eq_true_eq] at hck
    rcases hck with hm | hall
    · have hn0 : nw = [] := by
        apply List.eq_nil_of_length_eq_zero
        rw [hnw] at hm
        simp only [List.length_append] at hm
        omega
      simp only [List.all_eq_true, decide_eq_true_eq] at hbs
      rcases light_path hx.hmono hd (hlight hn0) x y (hbs x hxb) hy with ⟨_, g2⟩ | ⟨p1, j, p2, sj, oj, v, z, e, hdj, hoj, hlj, hrj, ex, ey⟩
      · exact h.sub hx g2
      · subst ey; subst ex
        have hge : s.H.next ≤ sj.H.next := drun_mono hx.hmono hdj
        have hlt : sj.H.next < sf.H.next := Nat.lt_of_lt_of_le (hbs _ hxb) hsf
        have hW : Wit P call ops b hv n0 c s ⟨j, v, some (sj.H.next, y)⟩ := ⟨p1, p2 ++ i :: post, sj, oj, some y, by rw [hc, e]; simp, hdj, hoj, hlj, hrj, rfl⟩
        by_cases hex : ∃ e ∈ E, ∃ o, e.al = some (sj.H.next, o)
        · obtain ⟨e1, he1, o1, ha1⟩ := hex
          have hid := Wit.ids (hmono := hx.hmono) h.nodupC (h.wit e1 he1) hW ha1 rfl ⟨sf, h.run⟩
          simp only at hid
          obtain ⟨pre2, post2, s2, op2, x2, hc2, hd2, ho2, hl2, hr2, ha2⟩ := h.wit e1 he1
          rw [hid] at hc2 ho2 hr2
          obtain ⟨rfl, _⟩ := split_unique h.nodupC (p1 := p1) (q1 := p2 ++ i :: post) (i := j) (by rw [hc, e]; simp) hc2
          rw [hdj] at hd2; injection hd2 with hd2; subst hd2
          rw [hoj] at ho2; injection ho2 with ho2; subst ho2
          rw [hrj] at hr2; injection hr2 with hr2; injection hr2 with _ hr2; subst hr2
          exact addH_mem (h.idsApart hx) he1 ha2
        · obtain ⟨p, hp⟩ := hpl _ hxb
          rw [h.free _ hge hlt fun e he o ha => hex ⟨e, he, o, ha⟩] at hp
          cases hp
    · obtain ⟨S, r, hS, hSg⟩ := h.snap
      simp only [List.all_eq_true] at hall
      have h1 := hall x hxb
      unfold sameIn at h1
      simp only [hy] at h1
      have h2 := h1
      rw [List.all_eq_true] at h2
      have hSmem : S ∈ si.snaps.take (si.snaps.length - (hv.filter fun h => (b.getD i 0).testBit h).length) := by
        rw [hnw, hS]
        apply List.mem_of_getElem? (i := nw.length)
        rw [List.getElem?_take, if_pos]
        · simp
        · rw [hS] at hcnt
          simp only [List.length_append, List.length_cons] at hcnt ⊢
          omega
      have h3 := h2 S hSmem
      cases hSx : S.get x with
      | none => simp [hSx] at h3
      | some o' =>
        simp only [hSx] at h3
        have := AObj.eq_of_beq _ _ h3
        subst this
        exact h.sub hx (hSg x _ hSx)
  clear hbs hpl hck
  induction bs generalizing os with
  | nil => exact hos
  | cons x xs ih =>
    simp only [mapOpt] at hos ⊢
    cases hy : si.H.get x with
    | none => simp [hy] at hos
    | some y =>
      simp only [hy] at hos
      rw [key x (by simp) y hy]
      cases hr : mapOpt si.H.get xs with
      | none => simp [hr] at hos
      | some ys =>
        simp only [hr] at hos ⊢
        rw [ih (os := ys) hr fun z hz => key z (by simp [hz])]
        exact hos

theorem listed_set {ls : Array Bool} {i j : Nat} (hi : i < ls.size) : (ls.setIfInBounds i true).getD j true = true ↔ (j = i ∨ ls.getD j true = true) := by
  rw [Array.getD_eq_getD_getElem?, Array.getD_eq_getD_getElem?, Array.getElem?_setIfInBounds]
  by_cases e : i = j
  · subst e; simp [hi]
  · rw [if_neg e]
    constructor
    · exact .inr
    · rintro (h | h)
      · exact absurd h.symm e
      · exact h

/-- The book-keeping of an operation that is done early. -/
theorem Inv.addE (hx : Fix P call ops b hv) {c : List Nat} {s : St} {E : List En} {ls : Array Bool} {ρ : Map} {a : Act} {w : World} (h : Inv P call ops b hv n0 ρ0 H0 w0 a0 sf c s E ls ρ a w)
    {e : En} {ρ' : Map} {a' : Act} {w' : World} (hw : Wit P call ops b hv n0 c s e) (hnl : ¬ ∃ x ∈ E, x.idx = e.idx) (hrdy : ∀ k, (b.getD e.idx 0).testBit k = true → k ∈ c → ∃ x ∈ E, x.idx = k)
    (hi : e.idx < ops.size)
    (h1 : Sim P.globals.size ρ' (addH (e :: E) s.H) w') (h2 : ∀ x, s.H.next ≤ x → x < sf.H.next → (∀ y ∈ e :: E, ∀ o, y.al ≠ some (x, o)) → ρ' x = none)
    (h3 : Frel ρ' (addT ops (e :: E) s.T) a') (h4 : Ext ρ0 ρ') (h5 : ∀ x, (x < H0.next ∨ sf.H.next ≤ x) → ρ' x = ρ0 x) (h6 : ∀ x, H0.get x = none → (x < H0.next ∨ sf.H.next ≤ x) → (addH (e :: E) s.H).get x = none)
    (h7 : ∀ x o, (addH (e :: E) s.H).get x = some o → o.live = true → o.own = false → H0.get x = some o) (h8 : Keeps ρ0 H0 w0 ρ' (addH (e :: E) s.H) w') (h9 : a'.defers = a0.defers) :
    Inv P call ops b hv n0 ρ0 H0 w0 a0 sf c s (e :: E) (ls.setIfInBounds e.idx true) ρ' a' w' := by
  refine ⟨h.run, h1, h2, h3, ?_, ?_, h.nodupC, h.inC, by simpa using h.lsize, ?_, ?_, h.p2, h.p1, h.snap, h.cnt, h.base, h.n0eq, h.bd, h4, h5, h6, h7, h8, h9⟩
  · intro x hxm
    simp only [List.mem_cons] at hxm
    rcases hxm with rfl | hxm
    · exact hw
    · exact h.wit x hxm
  · simp only [List.map_cons, List.nodup_cons]
    refine ⟨fun hm => ?_, h.nodupE⟩
    obtain ⟨x, hx1, hx2⟩ := List.mem_map.1 hm
    exact hnl ⟨x, hx1, hx2⟩
  · intro j hj
    rw [listed_set (by rw [h.lsize]; exact hi), h.listed j hj]
    constructor
    · rintro (rfl | h1 | ⟨x, hx1, hx2⟩)
      · exact .inr ⟨e, by simp, rfl⟩
      · exact .inl h1
      · exact .inr ⟨x, by simp [hx1], hx2⟩
    · rintro (h1 | ⟨x, hx1, hx2⟩)
      · exact .inr (.inl h1)
      · simp only [List.mem_cons] at hx1
        rcases hx1 with rfl | hx1
        · exact .inl hx2.symm
        · exact .inr (.inr ⟨x, hx1, hx2⟩)
  · intro j hj hlj k hk hkc
    rw [listed_set (by rw [h.lsize]; exact hi)] at hlj
    rcases hlj with rfl | hlj
    · obtain ⟨x, hx1, hx2⟩ := hrdy k hk hkc
      exact ⟨x, by simp [hx1], hx2⟩
    · obtain ⟨x, hx1, hx2⟩ := h.done j hj hlj k hk hkc
      exact ⟨x, by simp [hx1], hx2⟩

/-- A light operation done when the order has it, early or not. -/
theorem Inv.early (hx : Fix P call ops b hv) {c : List Nat} {s : St} {E : List En} {ls : Array Bool} {ρ : Map} {a : Act} {w : World} (h : Inv P call ops b hv n0 ρ0 H0 w0 a0 sf c s E ls ρ a w)
    {i : Nat} {o : Oper} (ho : ops[i]? = some o) (hli : isHeavy P o.op = false) (hnl : ls.getD i true = false) (hrdy : ∀ k, (b.getD i 0).testBit k = true → k ∈ c → ∃ e ∈ E, e.idx = k) {K : Act → World → Prop}
    (hK : ∀ E' ρ' a' w', Inv P call ops b hv n0 ρ0 H0 w0 a0 sf c s E' (ls.setIfInBounds i true) ρ' a' w' → K a' w') : wpOp P ops Q i K a w := by
  have hi : i < ops.size := by obtain ⟨h, _⟩ := Array.getElem?_eq_some_iff.1 ho; exact h
  have hnot : ¬ (i ∉ c ∨ ∃ e ∈ E, e.idx = i) := by rw [← h.listed i hi, hnl]; simp
  have hic : i ∈ c := by
    rcases Classical.em (i ∈ c) with h | h
    · exact h
    · exact absurd (.inl h) hnot
  have hne : ¬ ∃ e ∈ E, e.idx = i := fun h => hnot (.inr h)
  obtain ⟨pre, post, hc⟩ := List.append_of_mem hic
  have hrun := h.run
  rw [hc] at hrun
  obtain ⟨si, hd, hrun2⟩ := drun_append hrun
  simp only [drun] at hrun2
  cases hst : dstep P call ops b hv n0 i si with
  | none => simp [hst] at hrun2
  | some s2 =>
    simp only [hst] at hrun2
    obtain ⟨v, x, hres, rfl⟩ := dstep_light ho hli hst
    have hlook := h.looks hx hc hd ho hne hrdy
    have hdst : dstOf ops i = o.dst := by simp [dstOf, ho]
    have hsinext : s.H.next ≤ si.H.next := drun_mono hx.hmono hd
    have hpushn : (pushO si.H x).next ≤ sf.H.next := by have := drun_mono hx.hmono hrun2; exact this
    have hsisf : si.H.next ≤ sf.H.next := by
      refine Nat.le_trans ?_ hpushn
      cases x <;> simp [pushO]
    unfold wpOp
    rw [ho]
    simp only
    rw [wanted_rel h.frel, wanted_congr hlook]
    unfold lightRes at hres
    by_cases hwt : wantedA ops si.T o = true
    · rw [if_pos hwt]
      rw [if_pos hwt] at hres
      left
      have hsemeq : sem P call (addT ops E s.T) o.op = sem P call si.T o.op := sem_congr (ev_congr hlook)
      -- a value that leaves memory as it is
      have nomem : ∀ (v : AV), x = none → Does P ρ (addH E s.H) w v (addH E s.H) (execOp a.eval o) →
          (∀ (hv' : lightRes P call ops b hv n0 i o si = some (v, none)), o.wp P a w K Q) := by
        intro v hxn hdo hlr
        refine wp_of_delivers hdo ?_
        rintro u w1 ⟨ρ1, hg, hu⟩
        have hρ : ρ1 = ρ := by
          funext y
          exact hg.out y (Nat.lt_or_ge y _)
        subst hρ
        refine hK (⟨i, v, none⟩ :: E) ρ1 _ w1 (h.addE hx ⟨pre, post, si, o, none, hc, hd, ho, hli, hlr, rfl⟩ hne hrdy hi hg.sim ?_ ?_ h.ext h.out h.dom h.ro (h.kp.trans hg.keeps) ?_)
        · intro y h1 h2 h3
          exact h.free y h1 h2 fun e he => h3 e (by simp [he])
        · simp only [addT, hdst]
          exact put_rel h.frel o.dst hu
        · rw [put_defers]; exact h.dfr
      split at hres
      · cases hres
      · cases hres
      · rename_i v1 hs
        simp only [Option.some.injEq, Prod.mk.injEq] at hres
        obtain ⟨rfl, rfl⟩ := hres
        refine nomem v1 rfl ?_ (by unfold lightRes; rw [if_pos hwt, hs])
        exact sem_sound hx.hcall (hsemeq.trans hs) h.frel h.sim.glob (addH E s.H) w v1 (addH E s.H) h.sim rfl (fun y hy hy' => by omega) (by intro k e; cases e)
      · rename_i y mk hs
        simp only [Option.some.injEq, Prod.mk.injEq] at hres
        obtain ⟨rfl, rfl⟩ := hres
        simp only [pushO, Heap.next_push] at hpushn
        have hW : Wit P call ops b hv n0 c s ⟨i, mk si.H.next, some (si.H.next, y)⟩ :=
          ⟨pre, post, si, o, some y, hc, hd, ho, hli, by unfold lightRes; rw [if_pos hwt, hs], rfl⟩
        have hnoid : ∀ e ∈ E, ∀ o', e.al ≠ some (si.H.next, o') := by
          intro e he o' ha
          exact hne ⟨e, he, Wit.ids (hmono := hx.hmono) h.nodupC (h.wit e he) hW ha rfl ⟨sf, h.run⟩⟩
        let Hx : Heap := { next := si.H.next, tree := (addH E s.H).tree }
        have hHx : ∀ z, Hx.get z = (addH E s.H).get z := fun z => rfl
        have hsimx : Sim P.globals.size ρ Hx w := h.sim.congr hHx rfl
        have hdo := sem_sound hx.hcall (hsemeq.trans hs) h.frel h.sim.glob Hx w (mk si.H.next) (Hx.push y) hsimx rfl
          (fun z hz hz' => by
            have : z = si.H.next := by simp [Hx] at hz hz'; omega
            subst this
            exact h.free _ hsinext (by omega) hnoid) (by intro k e; cases e)
        refine wp_of_delivers hdo ?_
        rintro u w1 ⟨ρ1, hg, hu⟩
        have hget : ∀ z, (addH (⟨i, mk si.H.next, some (si.H.next, y)⟩ :: E) s.H).get z = (Hx.push y).get z := by
          intro z
          simp only [addH]
          rw [Heap.get_set, Heap.get_push]
          rfl
        have hold : ∀ z, z ≠ si.H.next → ρ1 z = ρ z := by
          intro z hz
          refine hg.out z ?_
          simp [Hx]; omega
        have hbase := h.base
        have hneq := h.n0eq
        refine hK (⟨i, mk si.H.next, some (si.H.next, y)⟩ :: E) ρ1 _ w1 (h.addE hx hW hne hrdy hi (hg.sim.congr hget rfl) ?_ ?_ (h.ext.trans hg.ext) ?_ ?_ ?_ ?_ ?_)
        · intro z h1 h2 h3
          have hz : z ≠ si.H.next := by rintro rfl; exact h3 ⟨i, mk si.H.next, some (si.H.next, y)⟩ (by simp) y rfl
          rw [hold z hz]
          exact h.free z h1 h2 fun e he => h3 e (by simp [he])
        · simp only [addT, hdst]
          exact put_rel (VRels.mono hg.ext _ _ h.frel) o.dst hu
        · intro z hz
          have : z ≠ si.H.next := by omega
          rw [hold z this]
          exact h.out z hz
        · intro z h1 h2
          rw [hget, Heap.get_push, if_neg (by simp [Hx]; omega), hHx]
          exact h.dom z h1 h2
        · intro z o' hz hl hw
          rw [hget] at hz
          have := hg.ro z o' hz hl hw
          rw [hHx] at this
          exact h.ro z o' this hl hw
        · exact h.kp.trans ((hg.keeps.congr hget).congr_left fun z => (hHx z).symm)
        · rw [put_defers]; exact h.dfr
      · rename_i bs k hs
        simp only at hres
        split at hres
        · rename_i hck
          simp only [Bool.and_eq_true] at hck
          cases hos : mapOpt si.H.get bs with
          | none => simp [hos] at hres
          | some os =>
            cases hk : k os with
            | none => simp [hos, hk] at hres
            | some v1 =>
              simp only [hos, hk, Option.some.injEq, Prod.mk.injEq] at hres
              obtain ⟨rfl, rfl⟩ := hres
              have hpl := reads_placed (hsemeq.trans hs) h.frel h.sim.glob
              have hread := h.reads hx hc hd ho hli hne hrdy hsisf hck.1 hpl hck.2 hos
              refine nomem v1 rfl ?_ (by unfold lightRes; rw [if_pos hwt, hs]; simp only; rw [if_pos (by simp only [Bool.and_eq_true]; exact hck), hos]; simp only [hk])
              exact sem_sound hx.hcall (hsemeq.trans hs) h.frel h.sim.glob (addH E s.H) w v1 (addH E s.H) h.sim (by simp only [Sm.run, hread, hk]) (fun y hy hy' => by omega) (by intro k e; cases e)
        · cases hres
    · rw [if_neg hwt]
      rw [if_neg hwt] at hres
      simp only [Option.some.injEq, Prod.mk.injEq] at hres
      obtain ⟨rfl, rfl⟩ := hres
      refine hK (⟨i, .undef, none⟩ :: E) ρ _ w (h.addE hx ⟨pre, post, si, o, none, hc, hd, ho, hli, by unfold lightRes; rw [if_neg hwt], rfl⟩ hne hrdy hi h.sim ?_ ?_ h.ext h.out h.dom h.ro h.kp ?_)
      · intro y h1 h2 h3
        exact h.free y h1 h2 fun e he => h3 e (by simp [he])
      · simp only [addT, hdst]
        exact put_rel h.frel o.dst (VRel.undef ρ)
      · rw [put_defers]; exact h.dfr

end
end Go.Abs

/- A region that draws its order: a heavy operation in its turn, and the whole region. -/
namespace Go.Abs
set_option linter.unusedVariables false
set_option linter.unusedSimpArgs false

theorem filter_one_less {l : List Nat} (hn : l.Nodup) {i : Nat} (hi : i ∈ l) {p q : Nat → Bool} (hp : p i = true) (hq : q i = false) (h : ∀ j ∈ l, j ≠ i → q j = p j) : (l.filter p).length = (l.filter q).length + 1 := by
  induction l with
  | nil => cases hi
  | cons x xs ih =>
    have hn' := List.nodup_cons.1 hn
    simp only [List.filter_cons]
    by_cases e : x = i
    · subst e
      rw [if_pos hp, if_neg (by rw [hq]; simp)]
      have : xs.filter p = xs.filter q := List.filter_congr fun j hj => (h j (by simp [hj]) (by rintro rfl; exact hn'.1 hj)).symm
      simp [this]
    · have him : i ∈ xs := by simp only [List.mem_cons] at hi; rcases hi with h | h; exact absurd h.symm e; exact h
      have ih := ih hn'.2 him fun j hj => h j (by simp [hj])
      rw [h x (by simp) e]
      cases hpx : p x with
      | true => simp [ih]
      | false => simpa using ih

section
variable {P : Program} {call : CallFn} {ops : Array Oper} {b : Array Nat} {hv : List Nat} {n0 : Nat}
variable {ρ0 : Map} {H0 : Heap} {w0 : World} {a0 : Act} {sf : St} {Q : Exit → Act → World → Prop}

theorem Sim.restrict {G : Nat} {ρ : Map} {H H' : Heap} {w : World} (h : Sim G ρ H' w) (hs : ∀ x o, H.get x = some o → H'.get x = some o) : Sim G ρ H w where
  obj := fun x o hx => h.obj x o (hs x o hx)
  apart := fun x x' o o' p p' hx hx' => h.apart x x' o o' p p' (hs x o hx) (hs x' o' hx')
  glob := h.glob

theorem own_live {o : AObj} (h : o.own = true) : o.live = true := by cases o <;> simp_all [AObj.own, AObj.live]

/-- The heavy operation's own step, with the blocks that were made early put aside and back. -/
theorem Inv.turn (hx : Fix P call ops b hv) {f : Nat} {c : List Nat} {s : St} {E : List En} {ls : Array Bool} {ρ : Map} {a : Act} {w : World}
    (h : Inv P call ops b hv n0 ρ0 H0 w0 a0 sf (f :: c) s E ls ρ a w) {o : Oper} (ho : ops[f]? = some o) (hh : isHeavy P o.op = true) (hnE : ¬ ∃ e ∈ E, e.idx = f)
    (hrdy : ∀ k, (b.getD f 0).testBit k = true → k ∈ f :: c → ∃ e ∈ E, e.idx = k) {v : AV} {H1 : Heap}
    (hst : dstep P call ops b hv n0 f s = some { T := put s.T o.dst v, H := H1, snaps := H1 :: s.snaps }) {ρ1 : Map} {w1 : World} {u : Value} (hg : Good P.globals.size ρ s.H w ρ1 H1 w1) (hu : VRel ρ1 v u) :
    Inv P call ops b hv n0 ρ0 H0 w0 a0 sf c { T := put s.T o.dst v, H := H1, snaps := H1 :: s.snaps } E (ls.setIfInBounds f true) ρ1 (a.put o.dst u) w1 := by
  have hfc := List.nodup_cons.1 h.nodupC
  have hf : f < ops.size := h.inC f (by simp)
  have hrun := h.run
  simp only [drun, hst] at hrun
  have hm1 : H1.next ≤ sf.H.next := drun_mono hx.hmono hrun
  have hn1 := hg.next
  have hia := h.idsApart hx
  have hdst : dstOf ops f = o.dst := by simp [dstOf, ho]
  -- the witnesses, one step on
  have hwit : ∀ e ∈ E, Wit P call ops b hv n0 c { T := put s.T o.dst v, H := H1, snaps := H1 :: s.snaps } e := by
    intro e he
    obtain ⟨pre2, post2, si2, op2, x2, hc2, hd2, ho2, hl2, hr2, ha2⟩ := h.wit e he
    cases pre2 with
    | nil =>
      simp only [List.nil_append, List.cons.injEq] at hc2
      exact absurd ⟨e, he, hc2.1.symm⟩ hnE
    | cons p ps =>
      simp only [List.cons_append, List.cons.injEq] at hc2
      obtain ⟨rfl, hc2⟩ := hc2
      simp only [drun, hst] at hd2
      exact ⟨ps, post2, si2, op2, x2, hc2, hd2, ho2, hl2, hr2, ha2⟩
  have hidge : ∀ e ∈ E, ∀ id o', e.al = some (id, o') → H1.next ≤ id ∧ id < sf.H.next := by
    intro e he id o' ha
    obtain ⟨pre2, post2, si2, op2, x2, hc2, hd2, ho2, hl2, hr2, ha2⟩ := hwit e he
    rw [ha2] at ha
    cases x2 with
    | none => cases ha
    | some y =>
      simp only [Option.map_some, Option.some.injEq, Prod.mk.injEq] at ha
      obtain ⟨rfl, _⟩ := ha
      refine ⟨drun_mono hx.hmono hd2, ?_⟩
      rw [hc2] at hrun
      obtain ⟨s3, g1, g2⟩ := drun_append hrun
      rw [hd2] at g1; injection g1 with g1; subst g1
      simp only [drun] at g2
      cases hs3 : dstep P call ops b hv n0 e.idx si2 with
      | none => simp [hs3] at g2
      | some s4 =>
        simp only [hs3] at g2
        obtain ⟨v4, x4, hr4, rfl⟩ := dstep_light ho2 hl2 hs3
        rw [hr2] at hr4; injection hr4 with hr4; injection hr4 with _ hr4; subst hr4
        have := drun_mono hx.hmono g2
        simp [pushO] at this
        omega
  have hbE : ∀ e ∈ E, ∀ id o', e.al = some (id, o') → (addH E s.H).get id = some o' ∧ (addH E H1).get id = some o' := fun e he id o' ha => ⟨addH_mem hia he ha, addH_mem hia he ha⟩
  have hcase : ∀ x y, (addH E H1).get x = some y → (∃ e ∈ E, e.al = some (x, y)) ∨ ((∀ e ∈ E, ∀ o, e.al ≠ some (x, o)) ∧ H1.get x = some y) := by
    intro x y hxy
    by_cases hex : ∃ e ∈ E, ∃ o, e.al = some (x, o)
    · obtain ⟨e, he, o', ha⟩ := hex
      have := (hbE e he x o' ha).2
      rw [hxy] at this
      injection this with this; subst this
      exact .inl ⟨e, he, ha⟩
    · have hno : ∀ e ∈ E, ∀ o, e.al ≠ some (x, o) := fun e he o ha => hex ⟨e, he, o, ha⟩
      rw [addH_other hno] at hxy
      exact .inr ⟨hno, hxy⟩
  -- where the early blocks lie
  have hplaceE : ∀ e ∈ E, ∀ x y, e.al = some (x, y) → y.live = true → ∃ p O, ρ x = some p ∧ ρ1 x = some p ∧ w.heap[p.blk]? = some O ∧ w1.heap[p.blk]? = some O ∧ (∀ B, OwnsBlk ρ1 H1 B → p.blk ≠ B) := by
    intro e he x y ha hl
    obtain ⟨p, O, hp, hO⟩ := h.sim.place (hbE e he x y ha).1 hl
    have hnoown : ¬ OwnsBlk ρ s.H p.blk := by
      rintro ⟨b2, o2, p2, hb2, ho2, hp2, e2⟩
      have hne : x ≠ b2 := by
        rintro rfl
        have := h.bd x (Nat.le_trans hn1 (hidge e he x y ha).1)
        rw [hb2] at this; cases this
      exact h.sim.apart x b2 y o2 p p2 (hbE e he x y ha).1 (h.sub hx hb2) hne hl ho2 hp hp2 e2.symm
    refine ⟨p, O, hp, hg.ext _ _ hp, hO, hg.keeps.kept _ _ hO hnoown, ?_⟩
    intro B hB e'
    rcases hg.keeps.owns B hB with hge | hob
    · have := heap_lt hO; omega
    · exact hnoown (e' ▸ hob)
  refine ⟨hrun, ⟨?_, ?_, hg.sim.glob⟩, ?_, ?_, hwit, h.nodupE, hfc.2, fun i hi => h.inC i (by simp [hi]), by simpa using h.lsize, ?_, ?_, ?_, ?_, ⟨H1, s.snaps, rfl, fun _ _ h => h⟩, ?_, Nat.le_trans h.base hn1, h.n0eq, hg.wf h.bd, h.ext.trans hg.ext, ?_, ?_, ?_, ?_, by rw [put_defers]; exact h.dfr⟩
  · intro x y hxy
    rcases hcase x y hxy with ⟨e, he, ha⟩ | ⟨_, hg1⟩
    · have ho2 := h.sim.obj x y (hbE e he x y ha).1
      cases y with
      | dead => trivial
      | map es =>
        obtain ⟨p, O, hp, hp1, hO, hO1, _⟩ := hplaceE e he x _ ha rfl
        obtain ⟨q, ms, k, hq, g0, g1, hh', hk⟩ := ho2
        rw [hp] at hq; injection hq with hq; subst hq
        rw [hO] at hh'; injection hh' with hh'; subst hh'
        exact ⟨p, ms, k, hp1, g0, g1, hO1, KRels.mono hg.ext _ _ hk⟩
      | cells d ed own md =>
        obtain ⟨p, O, hp, hp1, hO, hO1, _⟩ := hplaceE e he x _ ha rfl
        obtain ⟨q, D, ed', fd, hq, hh', hc', r⟩ := ho2
        rw [hp] at hq; injection hq with hq; subst hq
        rw [hO] at hh'; injection hh' with hh'; subst hh'
        exact ⟨p, D, ed', fd, hp1, hO1, hc'.mono hg.ext, r⟩
    · exact hg.sim.obj x y hg1
  · intro x x' y y' p p' hxy hxy' hne hl hw hp hp'
    rcases hcase x y hxy with ⟨e, he, ha⟩ | ⟨hno, hg1⟩
    · obtain ⟨q, O, hq, hq1, _, _, hqn⟩ := hplaceE e he x y ha hl
      rw [hq1] at hp; injection hp with hp; subst hp
      rcases hcase x' y' hxy' with ⟨e', he', ha'⟩ | ⟨hno', hg1'⟩
      · obtain ⟨q', O', hq', hq1', _, _, _⟩ := hplaceE e' he' x' y' ha' (own_live hw)
        rw [hq1'] at hp'; injection hp' with hp'; subst hp'
        exact h.sim.apart x x' y y' q q' (hbE e he x y ha).1 (hbE e' he' x' y' ha').1 hne hl hw hq hq'
      · exact hqn _ ⟨x', y', p', hg1', hw, hp', rfl⟩
    · rcases hcase x' y' hxy' with ⟨e', he', ha'⟩ | ⟨hno', hg1'⟩
      · obtain ⟨q', O', hq', hq1', _, _, hqn'⟩ := hplaceE e' he' x' y' ha' (own_live hw)
        rw [hq1'] at hp'; injection hp' with hp'; subst hp'
        cases hyo : y.own with
        | true => exact fun e => hqn' _ ⟨x, y, p, hg1, hyo, hp, e⟩ rfl
        | false =>
          have hsx := hg.ro x y hg1 hl hyo
          have hxlt : x < s.H.next := by
            rcases Nat.lt_or_ge x s.H.next with h1 | h1
            · exact h1
            · have := h.bd x h1; rw [hsx] at this; cases this
          have hpx : ρ x = some p := by rw [← hg.out x (.inl hxlt)]; exact hp
          exact h.sim.apart x x' y y' p q' (h.sub hx hsx) (hbE e' he' x' y' ha').1 hne hl hw hpx hq'
      · exact hg.sim.apart x x' y y' p p' hg1 hg1' hne hl hw hp hp'
  · intro x hx1 hx2 hno
    rw [hg.out x (.inr hx1)]
    exact h.free x (Nat.le_trans hn1 hx1) hx2 hno
  · have : addT ops E (put s.T o.dst v) = put (addT ops E s.T) o.dst v := by
      apply List.ext_getElem?
      intro t
      by_cases hlt : t < s.T.length
      · by_cases hft : o.dst = some t
        · have hno : ∀ y ∈ E, dstOf ops y.idx ≠ some t := by
            intro y hy hyt
            apply hnE
            refine ⟨y, hy, ?_⟩
            unfold dstOf at hyt
            cases g1 : ops[y.idx]? with
            | none => simp [g1] at hyt
            | some o1 =>
              simp only [g1, Option.bind_some] at hyt
              exact dst_ne hx.dsts (by simpa using g1) (by simpa using ho) hyt hft
          rw [addT_other hno, hft, put_get_eq hlt, put_get_eq (by rw [length_addT]; exact hlt)]
        · rw [put_get_ne hft]
          by_cases hex : ∃ y ∈ E, dstOf ops y.idx = some t
          · obtain ⟨y, hy, hyt⟩ := hex
            rw [addT_mem (by rw [length_put]; exact hlt) hx.dsts h.nodupE hy hyt, addT_mem hlt hx.dsts h.nodupE hy hyt]
          · have hno : ∀ y ∈ E, dstOf ops y.idx ≠ some t := fun y hy hyt => hex ⟨y, hy, hyt⟩
            rw [addT_other hno, addT_other hno, put_get_ne hft]
      · rw [List.getElem?_eq_none (by rw [length_addT, length_put]; omega), List.getElem?_eq_none (by rw [length_put, length_addT]; omega)]
    rw [this]
    exact put_rel (VRels.mono hg.ext _ _ h.frel) o.dst hu
  · intro i hi
    rw [listed_set (by rw [h.lsize]; exact hf), h.listed i hi]
    constructor
    · rintro (rfl | h1 | h1)
      · exact .inl hfc.1
      · exact .inl fun hm => h1 (by simp [hm])
      · exact .inr h1
    · rintro (h1 | h1)
      · by_cases hif : i = f
        · exact .inl hif
        · exact .inr (.inl (by simp [hif, h1]))
      · exact .inr (.inr h1)
  · intro i hi hli k hk hkc
    rw [listed_set (by rw [h.lsize]; exact hf)] at hli
    rcases hli with rfl | hli
    · exact hrdy k hk (by simp [hkc])
    · exact h.done i hi hli k hk (by simp [hkc])
  · intro pre i post e' k hk
    exact h.p2 (f :: pre) i post (by rw [e']; rfl) k hk
  · intro pre i post o' e' ho' hh' k hk
    exact h.p1 (f :: pre) i post o' (by rw [e']; rfl) ho' hh' k (by simp [hk])
  · simp only [List.length_cons]
    rw [h.cnt]
    have := filter_one_less hx.hvn (i := f) ((hx.hvs f).2 ⟨o, ho, hh⟩) (p := fun k => decide (k ∉ c)) (q := fun k => decide (k ∉ f :: c)) (by simp [hfc.1]) (by simp) (by intro j _ hj; simp [hj])
    omega
  · intro x hxx
    have hneq := h.n0eq
    have hbase := h.base
    rw [hg.out x (by omega)]
    exact h.out x hxx
  · intro x h1 h2
    have hneq := h.n0eq
    have hbase := h.base
    have hno : ∀ e ∈ E, ∀ o, e.al ≠ some (x, o) := by
      intro e he o' ha
      have := hidge e he x o' ha
      omega
    rw [addH_other hno]
    refine hg.dom x ?_ (by omega)
    have := h.dom x h1 h2
    rw [addH_other hno] at this
    exact this
  · intro x y hxy hl hw
    rcases hcase x y hxy with ⟨e, he, ha⟩ | ⟨_, hg1⟩
    · exact h.ro x y (hbE e he x y ha).1 hl hw
    · exact h.ro x y (h.sub hx (hg.ro x y hg1 hl hw)) hl hw
  · have hup : ∀ B, OwnsBlk ρ s.H B → OwnsBlk ρ (addH E s.H) B := by
      rintro B ⟨b2, o2, p2, hb2, r⟩
      exact ⟨b2, o2, p2, h.sub hx hb2, r⟩
    refine ⟨Nat.le_trans h.kp.size hg.keeps.size, ?_, ?_, hg.keeps.tape.trans h.kp.tape, hg.keeps.os.trans h.kp.os, hg.keeps.output.trans h.kp.output⟩
    · intro B O hB hno
      refine hg.keeps.kept B O (h.kp.kept B O hB hno) fun hob => ?_
      rcases h.kp.owns B (hup B hob) with hge | hob
      · have := heap_lt hB; omega
      · exact hno hob
    · rintro B ⟨x, y, p, hxy, hw, hp, rfl⟩
      rcases hcase x y hxy with ⟨e, he, ha⟩ | ⟨_, hg1⟩
      · obtain ⟨q, O, hq, hq1, _⟩ := hplaceE e he x y ha (own_live hw)
        rw [hq1] at hp; injection hp with hp; subst hp
        exact h.kp.owns _ ⟨x, y, q, (hbE e he x y ha).1, hw, hq, rfl⟩
      · rcases hg.keeps.owns p.blk ⟨x, y, p, hg1, hw, hp, rfl⟩ with hge | hob
        · left; have := h.kp.size; omega
        · exact h.kp.owns _ (hup _ hob)

/-- A heavy operation in its turn. -/
theorem Inv.heavy (hx : Fix P call ops b hv) {f : Nat} {c : List Nat} {s : St} {E : List En} {ls : Array Bool} {ρ : Map} {a : Act} {w : World}
    (h : Inv P call ops b hv n0 ρ0 H0 w0 a0 sf (f :: c) s E ls ρ a w) {o : Oper} (ho : ops[f]? = some o) (hh : isHeavy P o.op = true) (hnE : ¬ ∃ e ∈ E, e.idx = f)
    (hrdy : ∀ k, (b.getD f 0).testBit k = true → k ∈ f :: c → ∃ e ∈ E, e.idx = k) {K : Act → World → Prop}
    (hK : ∀ s' ρ' a' w', Inv P call ops b hv n0 ρ0 H0 w0 a0 sf c s' E (ls.setIfInBounds f true) ρ' a' w' → K a' w') : wpOp P ops Q f K a w := by
  have hlook := h.looks hx (pre := []) (post := c) (si := s) rfl rfl ho hnE hrdy
  have hsimr : Sim P.globals.size ρ s.H w := h.sim.restrict fun x y hxy => h.sub hx hxy
  have hrun := h.run
  simp only [drun] at hrun
  unfold wpOp
  rw [ho]
  simp only
  rw [wanted_rel h.frel, wanted_congr hlook]
  by_cases hwt : wantedA ops s.T o = true
  · rw [if_pos hwt]
    left
    cases hro : runOp P call s.T o s.H with
    | none => simp [dstep, ho, hh, hwt, hro] at hrun
    | some q =>
      obtain ⟨v, H1⟩ := q
      have hst : dstep P call ops b hv n0 f s = some { T := put s.T o.dst v, H := H1, snaps := H1 :: s.snaps } := by simp [dstep, ho, hh, hwt, hro]
      simp only [hst] at hrun
      have hm1 : H1.next ≤ sf.H.next := drun_mono hx.hmono hrun
      unfold runOp at hro
      split at hro
      case h_2 => cases hro
      rename_i s0 hs0
      have hsemeq : sem P call (addT ops E s.T) o.op = sem P call s.T o.op := sem_congr (ev_congr hlook)
      have hdo := sem_sound hx.hcall (hsemeq.trans hs0) h.frel h.sim.glob s.H w v H1 hsimr hro (fun y hy hy' => by
        refine h.free y hy (by omega) ?_
        intro e he o' ha
        obtain ⟨pre2, post2, si2, op2, x2, hc2, hd2, ho2, hl2, hr2, ha2⟩ := h.wit e he
        cases pre2 with
        | nil =>
          simp only [List.nil_append, List.cons.injEq] at hc2
          exact hnE ⟨e, he, hc2.1.symm⟩
        | cons p ps =>
          simp only [List.cons_append, List.cons.injEq] at hc2
          obtain ⟨rfl, hc2⟩ := hc2
          simp only [drun, hst] at hd2
          rw [ha2] at ha
          cases x2 with
          | none => cases ha
          | some z =>
            simp only [Option.map_some, Option.some.injEq, Prod.mk.injEq] at ha
            have := drun_mono hx.hmono hd2
            simp only at this
            omega) (fun _ _ => h.bd)
      refine wp_of_delivers hdo ?_
      rintro u w1 ⟨ρ1, hg, hu⟩
      exact hK _ ρ1 _ w1 (h.turn hx ho hh hnE hrdy hst hg hu)
  · rw [if_neg hwt]
    have hst : dstep P call ops b hv n0 f s = some { T := put s.T o.dst .undef, H := s.H, snaps := s.H :: s.snaps } := by simp [dstep, ho, hh, hwt]
    exact hK _ ρ _ w (h.turn hx ho hh hnE hrdy hst (Good.refl hsimr) (VRel.undef ρ))

/-- The abstract machine comes to all that the world has done. -/
theorem Inv.norm (hx : Fix P call ops b hv) {ls : Array Bool} {ρ : Map} {a : Act} {w : World} : ∀ (c : List Nat) {s : St} {E : List En}, Inv P call ops b hv n0 ρ0 H0 w0 a0 sf c s E ls ρ a w →
    ∃ c' s' E', Inv P call ops b hv n0 ρ0 H0 w0 a0 sf c' s' E' ls ρ a w ∧ ∀ f r, c' = f :: r → ¬ ∃ e ∈ E', e.idx = f
  | [], s, E, h => ⟨[], s, E, h, by intro f r e; cases e⟩
  | f :: c, s, E, h => by
    by_cases hex : ∃ e ∈ E, e.idx = f
    · obtain ⟨e, he, hef⟩ := hex
      obtain ⟨s', h'⟩ := h.catch hx he hef
      exact Inv.norm hx c h'
    · refine ⟨f :: c, s, E, h, ?_⟩
      intro f' r e
      injection e with e1 e2
      subst e1
      exact hex

theorem drawn_sound (hx : Fix P call ops b hv) (hQ : ∀ ρ' a' w', Good P.globals.size ρ0 H0 w0 ρ' sf.H w' → Frel ρ' sf.T a' → a'.defers = a0.defers → Q .normal a' w') :
    ∀ (fuel : Nat) {c : List Nat} {s : St} {E : List En} {ls : Array Bool} {ρ : Map} {a : Act} {w : World}, Inv P call ops b hv n0 ρ0 H0 w0 a0 sf c s E ls ρ a w →
      ((List.range ops.size).filter fun i => !ls.getD i true).length = fuel → wpAny P .any ops Q fuel ls a w := by
  -- who is ready
  have ready_spec : ∀ {ls : Array Bool} {i : Nat}, i ∈ Region.ready .any ops ls → i < ops.size ∧ ls.getD i true = false ∧ ∃ o, ops[i]? = some o ∧ ∀ k ∈ preds o, ls.getD k true = true := by
    intro ls i hi
    unfold Region.ready at hi
    simp only [List.mem_filter, List.mem_range, Bool.and_eq_true, Bool.not_eq_true'] at hi
    obtain ⟨h1, h2, h3⟩ := hi
    refine ⟨h1, h2, ?_⟩
    cases ho : ops[i]? with
    | none => simp [ho] at h3
    | some o =>
      refine ⟨o, rfl, fun k hk => ?_⟩
      simp only [ho, Option.map_some, Option.getD_some, Array.all_eq_true'] at h3
      unfold preds at hk
      simp only [List.mem_map, List.mem_filter] at hk
      obtain ⟨e, ⟨he, hb⟩, rfl⟩ := hk
      have := h3 e (by simpa using he)
      simp only [hb, Bool.not_true, Bool.false_or] at this
      rw [Array.getD_eq_getD_getElem?] at this ⊢
      cases hl : ls[e.on]? with
      | none => rfl
      | some v => simpa [hl] using this
  have ready_of : ∀ {ls : Array Bool} {i : Nat} {o : Oper}, ls.size = ops.size → ops[i]? = some o → ls.getD i true = false → (∀ k ∈ preds o, ls.getD k true = true) → i ∈ Region.ready .any ops ls := by
    intro ls i o hsz ho hl hp
    have hi : i < ops.size := by obtain ⟨h, _⟩ := Array.getElem?_eq_some_iff.1 ho; exact h
    unfold Region.ready
    simp only [List.mem_filter, List.mem_range, Bool.and_eq_true, Bool.not_eq_true']
    refine ⟨hi, hl, ?_⟩
    simp only [ho, Option.map_some, Option.getD_some, Array.all_eq_true']
    intro e he
    cases hb : Region.binds .any e with
    | false => rfl
    | true =>
      have hk : e.on ∈ preds o := by
        unfold preds
        exact List.mem_map.2 ⟨e, List.mem_filter.2 ⟨by simpa using he, hb⟩, rfl⟩
      have hlt := edges_lt hx.edges ho e.on hk
      have := hp e.on hk
      simp only [Bool.not_true, Bool.false_or]
      rw [Array.getD_eq_getD_getElem?] at this ⊢
      rw [Array.getElem?_eq_getElem (by omega)] at this ⊢
      exact this
  have finish : ∀ {c : List Nat} {s : St} {E : List En} {ls : Array Bool} {ρ : Map} {a : Act} {w : World}, Inv P call ops b hv n0 ρ0 H0 w0 a0 sf c s E ls ρ a w → Region.ready .any ops ls = [] → Q .normal a w := by
    intro c s E ls ρ a w h hr
    obtain ⟨c, s, E, h, hn⟩ := h.norm hx
    have hall : ∀ i, i < ops.size → ls.getD i true = true := by
      intro i
      induction i using Nat.strongRecOn with
      | _ i ih =>
        intro hi
        cases hl : ls.getD i true with
        | true => rfl
        | false =>
          exfalso
          have ho : ops[i]? = some ops[i] := Array.getElem?_eq_getElem hi
          have := ready_of h.lsize ho hl fun k hk => by
            have hlt := edges_lt hx.edges ho k hk
            exact ih k hlt (by omega)
          rw [hr] at this
          cases this
    cases c with
    | cons f r =>
      exfalso
      have hf := h.inC f (by simp)
      rcases (h.listed f hf).1 (hall f hf) with h1 | h1
      · exact h1 (by simp)
      · exact hn f r rfl h1
    | nil =>
      have hE : E = [] := by
        cases E with
        | nil => rfl
        | cons e r => have := h.mem_c hx (e := e) (by simp); cases this
      subst hE
      have hrun := h.run
      simp only [drun, Option.some.injEq] at hrun
      subst hrun
      refine hQ ρ a w ⟨h.sim, h.ext, h.out, ?_, h.dom, h.ro, h.kp⟩ h.frel h.dfr
      have := h.base
      have := h.n0eq
      omega
  intro fuel
  induction fuel with
  | zero =>
    intro c s E ls ρ a w h hc
    have hr : Region.ready .any ops ls = [] := by
      cases hr : Region.ready .any ops ls with
      | nil => rfl
      | cons i r =>
        exfalso
        obtain ⟨h1, h2, _⟩ := ready_spec (ls := ls) (i := i) (by rw [hr]; simp)
        have : i ∈ (List.range ops.size).filter fun i => !ls.getD i true := List.mem_filter.2 ⟨List.mem_range.2 h1, by simp only [h2]; rfl⟩
        rw [List.eq_nil_of_length_eq_zero hc] at this
        cases this
    exact ⟨hr, finish h hr⟩
  | succ fuel ih =>
    intro c s E ls ρ a w h hc
    refine ⟨fun hr => finish h hr, fun i hi => ?_⟩
    obtain ⟨hisz, hil, o, ho, hpr⟩ := ready_spec hi
    obtain ⟨c, s, E, h, hn⟩ := h.norm hx
    have hrdy : ∀ k, (b.getD i 0).testBit k = true → k ∈ c → ∃ e ∈ E, e.idx = k := by
      intro k hk hkc
      obtain ⟨j, hj, hjk⟩ := closed_bits hx.closed ho hk
      have hjl := hpr j hj
      have hjsz : j < ops.size := by have := edges_lt hx.edges ho j hj; omega
      rcases hjk with rfl | hjk
      · rcases (h.listed j hjsz).1 hjl with h1 | h1
        · exact absurd hkc h1
        · exact h1
      · exact h.done j hjsz hjl k hjk hkc
    have hcount : ((List.range ops.size).filter fun j => !(ls.setIfInBounds i true).getD j true).length = fuel := by
      have := filter_one_less (List.nodup_range (n := ops.size)) (i := i) (List.mem_range.2 hisz) (p := fun j => !ls.getD j true) (q := fun j => !(ls.setIfInBounds i true).getD j true) (by simp only [hil]; rfl)
        (by
          have := (listed_set (ls := ls) (i := i) (j := i) (by rw [h.lsize]; exact hisz)).2 (.inl rfl)
          simp only [this]; rfl)
        (by
          intro j _ hj
          have := listed_set (ls := ls) (i := i) (j := j) (by rw [h.lsize]; exact hisz)
          simp only [hj, false_or] at this
          have e : (ls.setIfInBounds i true).getD j true = ls.getD j true := by rw [Bool.eq_iff_iff]; exact this
          simp only [e])
      omega
    cases hh : isHeavy P o.op with
    | false => exact h.early hx ho hh hil hrdy fun E' ρ' a' w' h' => ih h' hcount
    | true =>
      have hic : i ∈ c := by
        have : ¬ (i ∉ c ∨ ∃ e ∈ E, e.idx = i) := by rw [← h.listed i hisz, hil]; simp
        rcases Classical.em (i ∈ c) with h1 | h1
        · exact h1
        · exact absurd (.inl h1) this
      have hnE : ¬ ∃ e ∈ E, e.idx = i := by
        intro h1
        have := (h.listed i hisz).2 (.inr h1)
        rw [hil] at this; cases this
      obtain ⟨pre, post, hce⟩ := List.append_of_mem hic
      cases pre with
      | cons f r =>
        exfalso
        have hb := h.p1 (f :: r) i post o hce ho hh f (by simp)
        exact hn f (r ++ i :: post) hce (hrdy f hb (by rw [hce]; simp))
      | nil =>
        simp only [List.nil_append] at hce
        subst hce
        exact h.heavy hx ho hh hnE hrdy fun s' ρ' a' w' h' => ih h' hcount

theorem heavies_spec (P : Program) : ∀ (os : List Oper) (i : Nat), (∀ h, h ∈ heavies P os i ↔ ∃ k o, h = i + k ∧ os[k]? = some o ∧ isHeavy P o.op = true) ∧ (heavies P os i).Nodup
  | [], i => ⟨fun h => by simp [heavies], List.nodup_nil⟩
  | o :: os, i => by
    obtain ⟨h1, h2⟩ := heavies_spec P os (i + 1)
    have hmem : ∀ h, (∃ k o', h = i + k ∧ (o :: os)[k]? = some o' ∧ isHeavy P o'.op = true) ↔ (h = i ∧ isHeavy P o.op = true) ∨ h ∈ heavies P os (i + 1) := by
      intro h
      rw [h1 h]
      constructor
      · rintro ⟨k, o', rfl, hk, hh⟩
        cases k with
        | zero => simp at hk; subst hk; exact .inl ⟨rfl, hh⟩
        | succ k => exact .inr ⟨k, o', by omega, by simpa using hk, hh⟩
      · rintro (⟨rfl, hh⟩ | ⟨k, o', rfl, hk, hh⟩)
        · exact ⟨0, o, rfl, rfl, hh⟩
        · exact ⟨k + 1, o', by omega, by simpa using hk, hh⟩
    unfold heavies
    split
    · rename_i hh
      refine ⟨fun h => ?_, ?_⟩
      · rw [hmem h]; simp [hh]
      · refine List.nodup_cons.2 ⟨fun hm => ?_, h2⟩
        obtain ⟨k, o', e, _⟩ := (h1 i).1 hm
        omega
    · rename_i hh
      refine ⟨fun h => ?_, h2⟩
      rw [hmem h]
      simp only [hh, and_false, false_or]
      simp

theorem draw_sound (hcall : CallOk P call) (hmono : CallMono call) (hm : P.follows .mixedOrders = true) {id : Nat} {b : Array Nat} {c : List Nat} {T T' : List AV} {H H' : Heap} {ρ : Map} {a : Act} {w : World}
    (h : drawRun P call ops b (heavies P ops.toList 0) c T H = some (T', H')) (hs : Sim P.globals.size ρ H w) (hf : Frel ρ T a) (hwf : Wf H) (hfree : ∀ b, H.next ≤ b → b < H'.next → ρ b = none)
    (hQ : ∀ ρ' a' w', Good P.globals.size ρ H w ρ' H' w' → Frel ρ' T' a' → a'.defers = a.defers → Q .normal a' w') : (Code.region id ops true).wp P Q a w := by
  unfold drawRun at h
  split at h
  case isFalse => cases h
  rename_i hok
  split at h
  case h_2 => cases h
  rename_i sf hrun
  simp only [Option.some.injEq, Prod.mk.injEq] at h
  obtain ⟨rfl, rfl⟩ := h
  unfold drawOk at hok
  simp only [Bool.and_eq_true, beq_iff_eq] at hok
  obtain ⟨⟨⟨⟨⟨⟨h1, h2⟩, h3⟩, h4⟩, h5⟩, h6⟩, h7⟩ := hok
  have hhv := heavies_spec P ops.toList 0
  have hx : Fix P call ops b (heavies P ops.toList 0) := ⟨hcall, hmono, h1, h2, nodupB_ok h3, h4, fun k => by
    rw [hhv.1 k]
    constructor
    · rintro ⟨j, o, rfl, hj, hh⟩; exact ⟨o, by simpa using hj, hh⟩
    · rintro ⟨o, ho, hh⟩; exact ⟨k, o, by omega, by simpa using ho, hh⟩, hhv.2⟩
  have hnc := nodupB_ok h5
  have hspec := fun {pre : List Nat} {i : Nat} {post : List Nat} (e : c = pre ++ i :: post) => canon_spec h7 e
  have hinC : ∀ i ∈ c, i < ops.size := by
    intro i hi
    obtain ⟨pre, post, e⟩ := List.append_of_mem hi
    obtain ⟨⟨o, ho⟩, _⟩ := hspec e
    obtain ⟨h, _⟩ := Array.getElem?_eq_some_iff.1 ho
    exact h
  -- every operation stands in the order
  have hallc : ∀ i, i < ops.size → i ∈ c := by
    intro i hi
    have key : ∀ (l : List Nat), l.Nodup → (∀ x ∈ l, x < ops.size) → ((List.range ops.size).filter fun x => decide (x ∈ l)).length = l.length := by
      intro l
      induction l with
      | nil => intro _ _; simp
      | cons x xs ih =>
        intro hn hlt
        have hn' := List.nodup_cons.1 hn
        rw [filter_one_less (List.nodup_range (n := ops.size)) (i := x) (List.mem_range.2 (hlt x (by simp))) (p := fun y => decide (y ∈ x :: xs)) (q := fun y => decide (y ∈ xs)) (by simp) (by simp [hn'.1]) (by intro j _ hj; simp [hj]),
          ih hn'.2 fun y hy => hlt y (by simp [hy])]
        simp
    have hk := key c hnc hinC
    rcases Classical.em (i ∈ c) with h | h
    · exact h
    · exfalso
      have h2 := filter_one_less (List.nodup_range (n := ops.size)) (i := i) (List.mem_range.2 hi) (p := fun _ => true) (q := fun y => decide (y ≠ i)) rfl (by simp) (by intro j _ hj; simp [hj])
      have h3 : ((List.range ops.size).filter fun x => decide (x ∈ c)).length ≤ ((List.range ops.size).filter fun y => decide (y ≠ i)).length := by
        apply filter_le
        intro x _ hx'
        simp only [decide_eq_true_eq] at hx' ⊢
        rintro rfl
        exact h hx'
      have h4 : (List.range ops.size).filter (fun _ => true) = List.range ops.size := List.filter_eq_self.2 fun _ _ => rfl
      rw [h4, List.length_range] at h2
      omega
  refine wp_region_any hm ?_
  have hgd := good_drawn (G := P.globals.size) (ρ := ρ) (H := H) (w := w) hs
  have hrep : ∀ i, i < ops.size → (Array.replicate ops.size false).getD i true = false := by
    intro i hi
    rw [Array.getD_eq_getD_getElem?, Array.getElem?_replicate, if_pos hi]; rfl
  refine drawn_sound (n0 := H.next) (ρ0 := ρ) (H0 := H) (w0 := w) (a0 := a) (sf := sf) hx hQ ops.size (c := c) (s := { T := T, H := H, snaps := [H] }) (E := []) (ρ := ρ) ?_ ?_
  · refine ⟨hrun, hgd.sim, fun x hx1 hx2 _ => hfree x hx1 hx2, hf, by simp, by simp, hnc, hinC, by simp, ?_, ?_, ?_, ?_, ⟨H, [], rfl, fun _ _ h => h⟩, ?_, Nat.le_refl _, rfl, hwf, Ext.refl ρ, fun _ _ => rfl, fun x hx1 _ => hx1, fun x o hx1 _ _ => hx1, hgd.keeps, rfl⟩
    · intro i hi
      rw [hrep i hi]
      simp [hallc i hi]
    · intro i hi hl
      rw [hrep i hi] at hl; cases hl
    · intro pre i post e k hk hmem
      obtain ⟨_, g2, _⟩ := hspec e
      rcases g2 k hk with h | h
      · simp at h
      · rw [e] at hnc
        exact (List.nodup_append.1 hnc).2.2 k h k hmem rfl
    · intro pre i post o e ho hh k hk
      obtain ⟨_, _, g3⟩ := hspec e
      exact g3 o ho hh k (.inr hk)
    · have : (heavies P ops.toList 0).filter (fun h => decide (h ∉ c)) = [] := by
        rw [List.filter_eq_nil_iff]
        intro k hk
        obtain ⟨o, ho, _⟩ := (hx.hvs k).1 hk
        have hi : k < ops.size := by obtain ⟨h, _⟩ := Array.getElem?_eq_some_iff.1 ho; exact h
        simp [hallc k hi]
      rw [this]; rfl
  · rw [List.filter_congr (q := fun _ => true) (fun i hi => by simp [hrep i (List.mem_range.1 hi)])]
    rw [List.filter_eq_self.2 fun _ _ => rfl, List.length_range]

theorem region_sound (hcall : CallOk P call) (hmono : CallMono call) (hm : P.follows .mixedOrders = true) {id : Nat} {draw : Bool} {T T' : List AV} {H H' : Heap} {ρ : Map} {a : Act} {w : World}
    (h : runRegion P call ops draw T H = some (T', H')) (hs : Sim P.globals.size ρ H w) (hf : Frel ρ T a) (hwf : Wf H) (hfree : ∀ b, H.next ≤ b → b < H'.next → ρ b = none)
    (hQ : ∀ ρ' a' w', Good P.globals.size ρ H w ρ' H' w' → Frel ρ' T' a' → a'.defers = a.defers → Q .normal a' w') : (Code.region id ops draw).wp P Q a w := by
  unfold runRegion at h
  cases draw with
  | true => exact draw_sound hcall hmono hm (by simpa using h) hs hf hwf hfree hQ
  | false => exact text_sound hcall hmono (by simpa using h) hs hf hwf hfree hQ

end
end Go.Abs

/- Bodies and calls: what the abstract machine says of a call, the model does. -/
namespace Go.Abs
set_option linter.unusedVariables false
set_option linter.unusedSimpArgs false

section
variable {P : Program}

def exitOf : AX → Exit
  | .normal => .normal
  | .exit id => .exit id
  | .ret => .ret

theorem step_scope {b : Frame} {a : Act} {k : List Item} {cs : List Frame} {w : World} {c : Code} :
    step P (lone (b.at a (.code (.scope c) :: k)) cs w) = .next (lone (b.at a (.code c :: .inScope c :: k)) cs w) :=
  step_lone_go (by simp [stepG, stepG.exec, Frame.at])

theorem step_inScope {b : Frame} {a : Act} {k : List Item} {cs : List Frame} {w : World} {c : Code} :
    step P (lone (b.at a (.inScope c :: k)) cs w) = .next (lone (b.at a k) cs w) :=
  step_lone_go (by simp [stepG, stepG.exec, Frame.at])

/-- A scope that no goto leaves. -/
theorem wp_scope_plain {Q : Exit → Act → World → Prop} {a : Act} {w : World} {c : Code} (h : c.wp P (fun e a w => Q e a w ∧ ∀ l, e ≠ .goto l) a w) : (Code.scope c).wp P Q a w := by
  intro b k cs
  obtain ⟨e, a₁, w₁, ⟨hq, hng⟩, harr⟩ := h b (.inScope c :: k) cs
  refine ⟨e, a₁, w₁, hq, ?_⟩
  cases e with
  | normal => exact .head step_scope (Steps.trans harr (.one step_inScope))
  | exit id => exact fun k' hk => .head step_scope (harr k' (by simpa [exitTo] using hk))
  | goto l => exact absurd rfl (hng l)
  | ret => exact .of_steps (.one step_scope) harr
  | panic ch => exact .of_steps (.one step_scope) harr
  | outgrown => exact .of_steps (b := b) (k := k) (cs := cs) (e := .outgrown) (.one step_scope) harr

abbrev Ok (P : Program) (ρ : Map) (H : Heap) (w : World) (a : Act) (T' : List AV) (H' : Heap) (R : Act → World → Prop) : Prop :=
  ∀ ρ' a' w', Good P.globals.size ρ H w ρ' H' w' → Frel ρ' T' a' → a'.defers = a.defers → R a' w'

theorem Ok.after {ρ ρ1 : Map} {H H1 H' : Heap} {w w1 : World} {a a1 : Act} {T' : List AV} {R : Act → World → Prop} (h : Ok P ρ H w a T' H' R) (hg : Good P.globals.size ρ H w ρ1 H1 w1) (hd : a1.defers = a.defers) : Ok P ρ1 H1 w1 a1 T' H' R :=
  fun ρ' a' w' hg' hf' hd' => h ρ' a' w' (hg.trans hg') hf' (hd'.trans hd)

theorem code_sound {call : CallFn} (hcall : CallOk P call) (hmono : CallMono call) (hm : P.follows .mixedOrders = true) {n : Nat} : ∀ (c : Code) {T T' : List AV} {H H' : Heap} {e : AX} {ρ : Map} {a : Act} {w : World} {Q : Exit → Act → World → Prop},
    runCode P call n c T H = some (e, T', H') → Sim P.globals.size ρ H w → Frel ρ T a → Wf H → (∀ b, H.next ≤ b → b < H'.next → ρ b = none) → Ok P ρ H w a T' H' (Q (exitOf e)) → c.wp P Q a w := by
  intro c
  induction c with
  | skip =>
    intro T T' H H' e ρ a w Q h hs hf hwf hfree hQ
    simp only [runCode, Option.some.injEq, Prod.mk.injEq] at h
    obtain ⟨rfl, rfl, rfl⟩ := h
    exact wp_skip (hQ ρ a w (Good.refl hs) hf rfl)
  | label l =>
    intro T T' H H' e ρ a w Q h hs hf hwf hfree hQ
    simp only [runCode, Option.some.injEq, Prod.mk.injEq] at h
    obtain ⟨rfl, rfl, rfl⟩ := h
    exact wp_label (hQ ρ a w (Good.refl hs) hf rfl)
  | exit id =>
    intro T T' H H' e ρ a w Q h hs hf hwf hfree hQ
    simp only [runCode, Option.some.injEq, Prod.mk.injEq] at h
    obtain ⟨rfl, rfl, rfl⟩ := h
    exact wp_exit (hQ ρ a w (Good.refl hs) hf rfl)
  | ret =>
    intro T T' H H' e ρ a w Q h hs hf hwf hfree hQ
    simp only [runCode, Option.some.injEq, Prod.mk.injEq] at h
    obtain ⟨rfl, rfl, rfl⟩ := h
    exact wp_ret (hQ ρ a w (Good.refl hs) hf rfl)
  | region id ops draw =>
    intro T T' H H' e ρ a w Q h hs hf hwf hfree hQ
    simp only [runCode] at h
    split at h
    · rename_i T1 H1 h1
      simp only [Option.some.injEq, Prod.mk.injEq] at h
      obtain ⟨rfl, rfl, rfl⟩ := h
      exact region_sound hcall hmono hm h1 hs hf hwf hfree hQ
    · cases h
  | seq x y ihx ihy =>
    intro T T' H H' e ρ a w Q h hs hf hwf hfree hQ
    simp only [runCode] at h
    refine wp_seq ?_
    split at h
    · rename_i T1 H1 h1
      have m1 := runCode_mono hmono x _ _ _ _ _ h1
      have m2 := runCode_mono hmono y _ _ _ _ _ h
      refine ihx h1 hs hf hwf (fun b hb hb' => hfree b hb (by omega)) ?_
      intro ρ1 a1 w1 hg hf1 hd1
      exact ihy h hg.sim hf1 (hg.wf hwf) (fun b hb hb' => by rw [hg.out b (.inr hb)]; exact hfree b (by omega) hb') (hQ.after hg hd1)
    · rename_i hne
      refine ihx h hs hf hwf hfree ?_
      intro ρ1 a1 w1 hg hf1 hd1
      have := hQ ρ1 a1 w1 hg hf1 hd1
      cases e with
      | normal => exact absurd h (hne _ _)
      | exit id => exact this
      | ret => exact this
  | cond c x y ihx ihy =>
    intro T T' H H' e ρ a w Q h hs hf hwf hfree hQ
    simp only [runCode] at h
    split at h
    · rename_i hc
      have := ev_rel hf hs.glob hc
      exact wp_cond_true this (ihx h hs hf hwf hfree hQ)
    · rename_i hc
      have := ev_rel hf hs.glob hc
      exact wp_cond_false this (ihy h hs hf hwf hfree hQ)
    · cases h
  | block id body ih =>
    intro T T' H H' e ρ a w Q h hs hf hwf hfree hQ
    simp only [runCode] at h
    refine wp_block ?_
    split at h
    · rename_i id' T1 H1 h1
      split at h
      · rename_i hid
        simp only [Option.some.injEq, Prod.mk.injEq] at h
        obtain ⟨rfl, rfl, rfl⟩ := h
        refine ih h1 hs hf hwf hfree ?_
        intro ρ1 a1 w1 hg hf1 hd1
        simp only [exitOf, Exit.inBlock, hid, if_true]
        exact hQ ρ1 a1 w1 hg hf1 hd1
      · rename_i hid
        simp only [Option.some.injEq, Prod.mk.injEq] at h
        obtain ⟨rfl, rfl, rfl⟩ := h
        refine ih h1 hs hf hwf hfree ?_
        intro ρ1 a1 w1 hg hf1 hd1
        simp only [exitOf, Exit.inBlock, hid, if_false]
        exact hQ ρ1 a1 w1 hg hf1 hd1
    · rename_i hne
      refine ih h hs hf hwf hfree ?_
      intro ρ1 a1 w1 hg hf1 hd1
      have := hQ ρ1 a1 w1 hg hf1 hd1
      cases e with
      | normal => exact this
      | exit id' => exact absurd h (hne _ _ _)
      | ret => exact this
  | loop body ih =>
    intro T T' H H' e ρ a w Q h hs hf hwf hfree hQ
    simp only [runCode] at h
    have key : ∀ (m : Nat) {T : List AV} {H : Heap} {ρ : Map} {a : Act} {w : World}, runLoop (runCode P call n body) m T H = some (e, T', H') → Sim P.globals.size ρ H w → Frel ρ T a → Wf H → (∀ b, H.next ≤ b → b < H'.next → ρ b = none) →
        Ok P ρ H w a T' H' (Q (exitOf e)) → Code.rounds P body Q m a w := by
      intro m
      induction m with
      | zero => intro T H ρ a w h; cases h
      | succ m ihm =>
        intro T H ρ a w h hs hf hwf hfree hQ
        simp only [runLoop] at h
        rw [rounds_succ]
        split at h
        · rename_i T1 H1 h1
          have m1 := runCode_mono hmono body _ _ _ _ _ h1
          have m2 := runLoop_mono (fun T H e T' H' h => runCode_mono hmono body T T' H H' e h) m _ _ _ _ _ h
          refine ih h1 hs hf hwf (fun b hb hb' => hfree b hb (by omega)) ?_
          intro ρ1 a1 w1 hg hf1 hd1
          exact ihm h hg.sim hf1 (hg.wf hwf) (fun b hb hb' => by rw [hg.out b (.inr hb)]; exact hfree b (by omega) hb') (hQ.after hg hd1)
        · rename_i hne
          refine ih h hs hf hwf hfree ?_
          intro ρ1 a1 w1 hg hf1 hd1
          have := hQ ρ1 a1 w1 hg hf1 hd1
          cases e with
          | normal => exact absurd h (hne _ _)
          | exit id => exact this
          | ret => exact this
    exact wp_loop_rounds n (key n h hs hf hwf hfree hQ)
  | scope body ih =>
    intro T T' H H' e ρ a w Q h hs hf hwf hfree hQ
    simp only [runCode] at h
    refine wp_scope_plain (ih h hs hf hwf hfree ?_)
    intro ρ1 a1 w1 hg hf1 hd1
    exact ⟨hQ ρ1 a1 w1 hg hf1 hd1, by intro l; cases e <;> simp [exitOf]⟩
  | rangeFunc f ps x y ihx ihy => intro T T' H H' e ρ a w Q h; simp [runCode] at h
  | goto l => intro T T' H H' e ρ a w Q h; simp [runCode] at h
  | refuse why => intro T T' H H' e ρ a w Q h; simp [runCode] at h

/-! ## calls -/
theorem results_ok {G : Nat} {ρ : Map} {H : Heap} {w : World} (hs : Sim G ρ H w) {T : List AV} {tmps : Array Value} (hf : VRels ρ T tmps.toList)
    {F : ResultVar → Sem Value} (hF1 : ∀ t, F (.tmp t) = pure (tmps.getD t Go.undef)) (hF2 : ∀ a t, F (.cell a t) = (asAddr (tmps.getD a Go.undef) >>= fun x => loadVar t x)) : ∀ {rs : List ResultVar} {vs : List AV}, resultsA P T H rs = some vs →
    ∃ us : List Value, (rs.mapM (m := Sem) F).run P w = .ok us w ∧ VRels ρ vs us
  | [], vs, h => by
    simp only [resultsA, Option.some.injEq] at h
    subst h
    exact ⟨[], by simp, rfl⟩
  | .tmp t :: rs, vs, h => by
    simp only [resultsA] at h
    cases hr : resultsA P T H rs with
    | none => simp [hr] at h
    | some vs' =>
      simp only [hr, Option.some.injEq] at h
      subst h
      obtain ⟨us, hu, hrel⟩ := results_ok hs hf hF1 hF2 hr
      refine ⟨tmps.getD t Go.undef :: us, ?_, _, us, rfl, getD_rel hf t, hrel⟩
      simp only [List.mapM_cons, hF1, Sem.run_bind, Sem.run_pure, Result.andThen_ok, hu]
  | .cell a t :: rs, vs, h => by
    simp only [resultsA] at h
    have ha := getD_rel hf a
    split at h
    case h_2 => cases h
    rename_i b o g n hb hg hn
    split at h
    case h_2 => cases h
    rename_i x hx
    split at h
    case h_2 => cases h
    rename_i v vs' hv hr
    simp only [Option.some.injEq] at h
    subst h
    rw [hb] at ha
    obtain ⟨p, hp, he⟩ := ha
    obtain ⟨u, hu, hrel1⟩ := var_read (P := P) hs hg hn hx hp hv
    obtain ⟨us, hus, hrel⟩ := results_ok hs hf hF1 hF2 hr
    refine ⟨u :: us, ?_, u, us, rfl, hrel1, hrel⟩
    have hA : asAddr (tmps.getD a Go.undef) = pure ⟨p.blk, p.off + o, none⟩ := by rw [he]; rfl
    simp only [List.mapM_cons, hF2, hA, Sem.run_bind, Sem.run_pure, Result.andThen_ok, hu, hus]

theorem tupled_rel {ρ : Map} {vs : List AV} {us : List Value} (h : VRels ρ vs us) : VRel ρ (tupled vs) (if h : us.toArray.size = 1 then us.toArray[0] else .tuple us.toArray) := by
  cases vs with
  | nil => cases h; exact ⟨#[], rfl, rfl⟩
  | cons v r =>
    obtain ⟨u, l, rfl, hv, hr⟩ := h
    cases r with
    | nil => cases hr; simpa [tupled] using hv
    | cons v2 r2 =>
      obtain ⟨u2, l2, rfl, hv2, hr2⟩ := hr
      have : ¬ (u :: u2 :: l2).toArray.size = 1 := by simp
      rw [dif_neg this]
      exact ⟨_, rfl, u, _, rfl, hv, u2, _, rfl, hv2, hr2⟩

theorem VRels.replicate (ρ : Map) : ∀ n : Nat, VRels ρ (List.replicate n .undef) (List.replicate n Go.undef)
  | 0 => rfl
  | n + 1 => ⟨Go.undef, _, rfl, VRel.undef ρ, VRels.replicate ρ n⟩

theorem body_sound {call : CallFn} (hcall : CallOk P call) (hmono : CallMono call) (hm : P.follows .mixedOrders = true) {n : Nat} {f : FuncId} {fn : Func} (hfn : P.funcs[f]? = some fn) {args : List AV} {H H' : Heap} {v : AV}
    (h : runBody P call n fn args H = some (v, H')) {ρ : Map} {w : World} {us : Array Value} (hs : Sim P.globals.size ρ H w) (hwf : Wf H) (hfree : ∀ b, H.next ≤ b → b < H'.next → ρ b = none) (hargs : VRels ρ args us.toList) :
    fn.body.isSome = true ∧ Calls P f us w fun e w' => ∃ u, e = .returned u ∧ ∃ ρ', Good P.globals.size ρ H w ρ' H' w' ∧ VRel ρ' v u := by
  unfold runBody at h
  split at h
  · cases h
  rename_i c hb
  refine ⟨by simp [hb], ?_⟩
  have hlen := hargs.length
  simp at hlen
  have hf0 : Frel ρ (args ++ List.replicate (fn.ntmps - args.length) .undef) { tmps := us ++ Array.replicate (fn.ntmps - us.size) Go.undef, defers := [] } := by
    simp only [Frel, Array.toList_append, Array.toList_replicate]
    rw [hlen]
    exact hargs.append (VRels.replicate ρ _)
  have fin : ∀ {T : List AV} {H1 : Heap} {vs : List AV}, resultsA P T H1 fn.results.toList = some vs → v = tupled vs → H1 = H' →
      Ok P ρ H w { tmps := us ++ Array.replicate (fn.ntmps - us.size) Go.undef, defers := [] } T H' fun a' w' => a'.defers = [] ∧ ∃ u, (results fn a'.tmps).run P w' = .ok u w' ∧ (∃ u', Ending.returned u = .returned u' ∧ ∃ ρ', Good P.globals.size ρ H w ρ' H' w' ∧ VRel ρ' v u') := by
    intro T H1 vs hr hv hH ρ1 a1 w1 hg hf1 hd1
    subst hH
    refine ⟨hd1, ?_⟩
    have key : ∀ F : ResultVar → Sem Value, (∀ t, F (.tmp t) = pure (a1.tmps.getD t Go.undef)) → (∀ a t, F (.cell a t) = (asAddr (a1.tmps.getD a Go.undef) >>= fun x => loadVar t x)) →
        ∃ u, (do let vs ← fn.results.mapM F; pure (if h : vs.size = 1 then vs[0] else Value.tuple vs) : Sem Value).run P w1 = .ok u w1 ∧ VRel ρ1 v u := by
      intro F h1 h2
      obtain ⟨rs, hrs, hrel⟩ := results_ok (P := P) hg.sim hf1 h1 h2 hr
      refine ⟨_, ?_, by rw [hv]; exact tupled_rel hrel⟩
      rw [Array.mapM_eq_mapM_toList]
      simp only [Sem.run_bind, Sem.run_map, hrs, Result.andThen_ok]
      rfl
    obtain ⟨u, hu, hr⟩ : ∃ u, (results fn a1.tmps).run P w1 = .ok u w1 ∧ VRel ρ1 v u := by
      unfold results
      refine key _ ?_ ?_
      · intro t; rfl
      · intro a t; rfl
    exact ⟨u, hu, u, rfl, ρ1, hg, hr⟩
  split at h
  · rename_i T H1 h1
    split at h
    · rename_i vs hr
      simp only [Option.some.injEq, Prod.mk.injEq] at h
      refine calls_of_wp hfn hb (code_sound hcall hmono hm c h1 hs hf0 hwf (by rw [h.2]; exact hfree) ?_)
      have := fin hr h.1.symm h.2
      rw [h.2]
      exact this
    · cases h
  · rename_i T H1 h1
    split at h
    · rename_i vs hr
      simp only [Option.some.injEq, Prod.mk.injEq] at h
      refine calls_of_wp hfn hb (code_sound hcall hmono hm c h1 hs hf0 hwf (by rw [h.2]; exact hfree) ?_)
      have := fin hr h.1.symm h.2
      rw [h.2]
      exact this
    · cases h
  · cases h

/-- Functions told by hand. -/
def PrimsOk (P : Program) (prims : Prims) : Prop := PrimsMono prims ∧ ∀ f g, prims f = some g → ∀ (args : List AV) (H : Heap) (v : AV) (H' : Heap), g args H = some (v, H') → ∀ (ρ : Map) (w : World) (us : Array Value), Sim P.globals.size ρ H w →
    Wf H → (∀ b, H.next ≤ b → b < H'.next → ρ b = none) → VRels ρ args us.toList → Does P ρ H w v H' (callFunc f us)

theorem noPrims_ok (P : Program) : PrimsOk P noPrims := ⟨by intro f g h; simp [noPrims] at h, by intro f g h; simp [noPrims] at h⟩

/-- No function is called as the runtime's count of goroutines is. -/
def plainNames (P : Program) : Bool := P.funcs.all fun fn => !(fn.name == "runtime.NumGoroutine")

theorem acall_ok {prims : Prims} (hp : PrimsOk P prims) (hm : P.follows .mixedOrders = true) (hn : plainNames P = true) : ∀ n, CallOk P (acall P prims n)
  | 0 => by intro f args H v H' h; cases h
  | n + 1 => by
    intro f args H v H' h ρ w us hs hwf hfree hargs
    simp only [acall] at h
    split at h
    · rename_i g hg
      exact hp.2 f g hg args H v H' h ρ w us hs hwf hfree hargs
    · split at h
      · rename_i fn hfn
        obtain ⟨hb, hc⟩ := body_sound (acall_ok hp hm hn n) (acall_mono hp.1 n) hm hfn h hs hwf hfree hargs
        have hname : (fn.name == "runtime.NumGoroutine") = false := by
          unfold plainNames at hn
          rw [Array.all_eq_true'] at hn
          have := hn fn (Array.mem_of_getElem? hfn)
          simpa using this
        have hnone : fn.body.isNone = false := by cases hbb : fn.body <;> simp_all
        unfold Does Delivers
        have : (callFunc f us).run P w = .ok (.enter f us) w := by
          simp only [callFunc, Sem.run_bind, run_program, Result.andThen_ok, hfn, hname, hnone, Bool.false_eq_true, if_false, Sem.run_pure]
        rw [this]
        exact hc
      · cases h

/-- THE LAW: what the abstract machine says of a call, the model does. -/
theorem acall_sound {prims : Prims} (hp : PrimsOk P prims) (hm : P.follows .mixedOrders = true) (hn : plainNames P = true) {n : Nat} {f : FuncId} {fn : Func} (hfn : P.funcs[f]? = some fn) (hnp : prims f = none) {args : List AV} {H H' : Heap} {v : AV}
    (h : acall P prims n f args H = some (v, H')) {ρ : Map} {w : World} {us : Array Value} (hs : Sim P.globals.size ρ H w) (hwf : Wf H) (hfree : ∀ b, H.next ≤ b → b < H'.next → ρ b = none) (hargs : VRels ρ args us.toList) :
    Calls P f us w fun e w' => ∃ u, e = .returned u ∧ ∃ ρ', Good P.globals.size ρ H w ρ' H' w' ∧ VRel ρ' v u := by
  cases n with
  | zero => cases h
  | succ n =>
    simp only [acall, hnp, hfn] at h
    exact (body_sound (acall_ok hp hm hn n) (acall_mono hp.1 n) hm hfn h hs hwf hfree hargs).2

end
end Go.Abs

/- More fuel gives the same answer: a call that ends with some fuel ends so with more. -/
namespace Go.Abs
set_option linter.unusedVariables false

def CLe (c d : CallFn) : Prop := ∀ f a H r, c f a H = some r → d f a H = some r

def SmLe (s t : Option Sm) : Prop := s = t ∨ ∃ k l, s = some (.heavy k) ∧ t = some (.heavy l) ∧ ∀ H r, k H = some r → l H = some r

theorem sem_le {P : Program} {c d : CallFn} (h : CLe c d) (T : List AV) (op : Op) : SmLe (sem P c T op) (sem P d T op) := by
  cases op with
  | call cl =>
    simp only [sem, callSem]
    cases mapOpt (ev P T) cl.args.toList with
    | none => exact .inl rfl
    | some args =>
      cases cl.callee with
      | builtin b => exact .inl rfl
      | invoke _ _ => exact .inl rfl
      | value f =>
        cases hf : ev P T f with
        | none => exact .inl (by simp [hf])
        | some v =>
          cases v with
          | func fn xs ys =>
            cases fn with
            | func g =>
              refine .inr ⟨fun H => c g (xs ++ args ++ ys) H, fun H => d g (xs ++ args ++ ys) H, ?_, ?_, fun H r hr => h _ _ _ _ hr⟩ <;> simp [hf]
            | _ => exact .inl (by simp [hf])
          | _ => exact .inl (by simp [hf])
  | _ => exact .inl rfl

theorem runOp_le {P : Program} {c d : CallFn} (h : CLe c d) {T : List AV} {o : Oper} {H : Heap} {r : AV × Heap} (hr : runOp P c T o H = some r) : runOp P d T o H = some r := by
  unfold runOp at hr ⊢
  rcases sem_le (P := P) h T o.op with e | ⟨k, l, e1, e2, hk⟩
  · rw [← e]; exact hr
  · rw [e1] at hr
    rw [e2]
    exact hk _ _ hr

theorem runOps_le {P : Program} {c d : CallFn} (h : CLe c d) (ops : Array Oper) : ∀ (l : List Oper) (T : List AV) (H : Heap) (r : List AV × Heap), runOps P c ops l T H = some r → runOps P d ops l T H = some r
  | [], T, H, r, hr => hr
  | o :: os, T, H, r, hr => by
    unfold runOps at hr ⊢
    split at hr
    · rename_i hw
      rw [if_pos hw]
      cases he : runOp P c T o H with
      | none => rw [he] at hr; cases hr
      | some p =>
        rw [he] at hr
        rw [runOp_le h he]
        exact runOps_le h ops os _ _ _ hr
    · rename_i hw
      rw [if_neg hw]
      exact runOps_le h ops os _ _ _ hr

theorem lightRes_le {P : Program} {c d : CallFn} (h : CLe c d) {ops : Array Oper} {b : Array Nat} {hv : List Nat} {n0 i : Nat} {o : Oper} {s : St} {r : AV × Option AObj}
    (hr : lightRes P c ops b hv n0 i o s = some r) : lightRes P d ops b hv n0 i o s = some r := by
  unfold lightRes at hr ⊢
  split at hr
  · rename_i hw
    rw [if_pos hw]
    rcases sem_le (P := P) h s.T o.op with e | ⟨k, l, e1, e2, hk⟩
    · rw [← e]; exact hr
    · rw [e1] at hr; cases hr
  · rename_i hw
    rw [if_neg hw]
    exact hr

theorem dstep_le {P : Program} {c d : CallFn} (h : CLe c d) {ops : Array Oper} {b : Array Nat} {hv : List Nat} {n0 i : Nat} {s r : St}
    (hr : dstep P c ops b hv n0 i s = some r) : dstep P d ops b hv n0 i s = some r := by
  unfold dstep at hr ⊢
  cases ho : ops[i]? with
  | none => rw [ho] at hr; cases hr
  | some o =>
    rw [ho] at hr
    simp only [] at hr ⊢
    split at hr
    · rename_i hh
      rw [if_pos hh]
      split at hr
      · rename_i hw
        rw [if_pos hw]
        cases he : runOp P c s.T o s.H with
        | none => rw [he] at hr; cases hr
        | some p => rw [he] at hr; rw [runOp_le h he]; exact hr
      · rename_i hw
        rw [if_neg hw]
        exact hr
    · rename_i hh
      rw [if_neg hh]
      cases he : lightRes P c ops b hv n0 i o s with
      | none => rw [he] at hr; cases hr
      | some p => rw [he] at hr; rw [lightRes_le h he]; exact hr

theorem drun_le {P : Program} {c d : CallFn} (h : CLe c d) {ops : Array Oper} {b : Array Nat} {hv : List Nat} {n0 : Nat} : ∀ {is : List Nat} {s r : St},
    drun P c ops b hv n0 is s = some r → drun P d ops b hv n0 is s = some r
  | [], s, r, hr => hr
  | i :: is, s, r, hr => by
    unfold drun at hr ⊢
    cases he : dstep P c ops b hv n0 i s with
    | none => rw [he] at hr; cases hr
    | some p =>
      rw [he] at hr
      rw [dstep_le h he]
      exact drun_le h hr

theorem runRegion_le {P : Program} {c d : CallFn} (h : CLe c d) {ops : Array Oper} {draw : Bool} {T : List AV} {H : Heap} {r : List AV × Heap}
    (hr : runRegion P c ops draw T H = some r) : runRegion P d ops draw T H = some r := by
  unfold runRegion at hr ⊢
  cases draw with
  | false => exact runOps_le h ops _ _ _ _ hr
  | true =>
    simp only [if_true, drawRun] at hr ⊢
    split at hr
    · rename_i hd
      rw [if_pos hd]
      split at hr
      · rename_i s hs
        rw [drun_le h hs]
        exact hr
      · cases hr
    · cases hr

def OLe (f g : List AV → Heap → Out) : Prop := ∀ T H r, f T H = some r → g T H = some r

theorem runLoop_le {f g : List AV → Heap → Out} (h : OLe f g) : ∀ (n m : Nat), n ≤ m → OLe (runLoop f n) (runLoop g m)
  | 0, m, hm, T, H, r, hr => by cases hr
  | n + 1, 0, hm, T, H, r, hr => by omega
  | n + 1, m + 1, hm, T, H, r, hr => by
    unfold runLoop at hr ⊢
    cases he : f T H with
    | none => rw [he] at hr; cases hr
    | some p =>
      rw [he] at hr
      rw [h _ _ _ he]
      obtain ⟨x, T', H'⟩ := p
      cases x with
      | normal => exact runLoop_le h n m (by omega) _ _ _ hr
      | exit _ => exact hr
      | ret => exact hr

theorem runCode_le {P : Program} {c d : CallFn} (h : CLe c d) {n m : Nat} (hn : n ≤ m) : ∀ (code : Code), OLe (runCode P c n code) (runCode P d m code) := by
  intro code
  induction code with
  | skip => exact fun T H r hr => hr
  | label _ => exact fun T H r hr => hr
  | ret => exact fun T H r hr => hr
  | exit _ => exact fun T H r hr => hr
  | scope b ih => exact fun T H r hr => ih T H r hr
  | region id ops draw =>
    intro T H r hr
    simp only [runCode] at hr ⊢
    cases he : runRegion P c ops draw T H with
    | none => rw [he] at hr; cases hr
    | some p => rw [he] at hr; rw [runRegion_le h he]; exact hr
  | seq a b iha ihb =>
    intro T H r hr
    simp only [runCode] at hr ⊢
    cases he : runCode P c n a T H with
    | none => rw [he] at hr; cases hr
    | some p =>
      rw [he] at hr
      rw [iha _ _ _ he]
      obtain ⟨x, T', H'⟩ := p
      cases x with
      | normal => exact ihb _ _ _ hr
      | exit _ => exact hr
      | ret => exact hr
  | cond x a b iha ihb =>
    intro T H r hr
    simp only [runCode] at hr ⊢
    split at hr
    · exact iha _ _ _ hr
    · exact ihb _ _ _ hr
    · cases hr
  | block id b ih =>
    intro T H r hr
    simp only [runCode] at hr ⊢
    cases he : runCode P c n b T H with
    | none => rw [he] at hr; cases hr
    | some p =>
      rw [he] at hr
      rw [ih _ _ _ he]
      exact hr
  | loop b ih => exact runLoop_le (fun T H r hr => ih T H r hr) n m hn
  | _ => exact fun T H r hr => by simp [runCode] at hr

theorem acall_le {P : Program} {prims : Prims} : ∀ {n m : Nat}, n ≤ m → CLe (acall P prims n) (acall P prims m)
  | 0, m, hm, f, a, H, r, hr => by cases hr
  | n + 1, 0, hm, f, a, H, r, hr => by omega
  | n + 1, m + 1, hm, f, a, H, r, hr => by
    unfold acall at hr ⊢
    cases hp : prims f with
    | some g => rw [hp] at hr; exact hr
    | none =>
      rw [hp] at hr
      simp only [] at hr ⊢
      cases hf : P.funcs[f]? with
      | none => rw [hf] at hr; cases hr
      | some fn =>
        rw [hf] at hr
        simp only [runBody] at hr ⊢
        cases hb : fn.body with
        | none => rw [hb] at hr; cases hr
        | some code =>
          rw [hb] at hr
          simp only [] at hr ⊢
          have ih : CLe (acall P prims n) (acall P prims m) := acall_le (by omega)
          cases hc : runCode P (acall P prims n) n code (a ++ List.replicate (fn.ntmps - a.length) .undef) H with
          | none => rw [hc] at hr; cases hr
          | some p =>
            rw [hc] at hr
            rw [runCode_le ih (by omega) code _ _ _ hc]
            exact hr

end Go.Abs
