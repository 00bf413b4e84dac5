/- A region that draws its order: a heavy operation in its turn, and the whole region. -/
import Derived.Test.YtpcchlcbmhmopaaAbDraw5
namespace Go.Abs
set_option linter.unusedVariables false
set_option linter.unusedSimpArgs false

theorem filter_one_less {l : List Nat} (hn : l.Nodup) {i : Nat} (hi : i ∈ l) {p q : Nat → Bool} (hp : p i = true) (hq : q i = false) (h : ∀ j ∈ l, j ≠ i → q j = p j) : (l.filter p).length = (l.filter q).length + 1 := by
  induction l with
  | nil => cases hi
  | cons x xs ih =>
    have hn' := List.nodup_cons.1 hn
    simp only [List.filter_cons]
    by_cases e : x = i
    · subst e
      rw [if_pos hp, if_neg (by rw [hq]; simp)]
      have : xs.filter p = xs.filter q := List.filter_congr fun j hj => (h j (by simp [hj]) (by rintro rfl; exact hn'.1 hj)).symm
      simp [this]
    · have him : i ∈ xs := by simp only [List.mem_cons] at hi; rcases hi with h | h; exact absurd h.symm e; exact h
      have ih := ih hn'.2 him fun j hj => h j (by simp [hj])
      rw [h x (by simp) e]
      cases hpx : p x with
      | true => simp [ih]
      | false => simpa using ih

section
variable {P : Program} {call : CallFn} {ops : Array Oper} {b : Array Nat} {hv : List Nat} {n0 : Nat}
variable {ρ0 : Map} {H0 : Heap} {w0 : World} {a0 : Act} {sf : St} {Q : Exit → Act → World → Prop}

theorem Sim.restrict {G : Nat} {ρ : Map} {H H' : Heap} {w : World} (h : Sim G ρ H' w) (hs : ∀ x o, H.get x = some o → H'.get x = some o) : Sim G ρ H w where
  obj := fun x o hx => h.obj x o (hs x o hx)
  apart := fun x x' o o' p p' hx hx' => h.apart x x' o o' p p' (hs x o hx) (hs x' o' hx')
  glob := h.glob

theorem own_live {o : AObj} (h : o.own = true) : o.live = true := by cases o <;> simp_all [AObj.own, AObj.live]

/-- The heavy operation's own step, with the blocks that were made early put aside and back. -/
theorem Inv.turn (hx : Fix P call ops b hv) {f : Nat} {c : List Nat} {s : St} {E : List En} {ls : Array Bool} {ρ : Map} {a : Act} {w : World}
    (h : Inv P call ops b hv n0 ρ0 H0 w0 a0 sf (f :: c) s E ls ρ a w) {o : Oper} (ho : ops[f]? = some o) (hh : isHeavy P o.op = true) (hnE : ¬ ∃ e ∈ E, e.idx = f)
    (hrdy : ∀ k, (b.getD f 0).testBit k = true → k ∈ f :: c → ∃ e ∈ E, e.idx = k) {v : AV} {H1 : Heap}
    (hst : dstep P call ops b hv n0 f s = some { T := put s.T o.dst v, H := H1, snaps := H1 :: s.snaps }) {ρ1 : Map} {w1 : World} {u : Value} (hg : Good P.globals.size ρ s.H w ρ1 H1 w1) (hu : VRel ρ1 v u) :
    Inv P call ops b hv n0 ρ0 H0 w0 a0 sf c { T := put s.T o.dst v, H := H1, snaps := H1 :: s.snaps } E (ls.setIfInBounds f true) ρ1 (a.put o.dst u) w1 := by
  have hfc := List.nodup_cons.1 h.nodupC
  have hf : f < ops.size := h.inC f (by simp)
  have hrun := h.run
  simp only [drun, hst] at hrun
  have hm1 : H1.next ≤ sf.H.next := drun_mono hx.hmono hrun
  have hn1 := hg.next
  have hia := h.idsApart hx
  have hdst : dstOf ops f = o.dst := by simp [dstOf, ho]
  -- the witnesses, one step on
  have hwit : ∀ e ∈ E, Wit P call ops b hv n0 c { T := put s.T o.dst v, H := H1, snaps := H1 :: s.snaps } e := by
    intro e he
    obtain ⟨pre2, post2, si2, op2, x2, hc2, hd2, ho2, hl2, hr2, ha2⟩ := h.wit e he
    cases pre2 with
    | nil =>
      simp only [List.nil_append, List.cons.injEq] at hc2
      exact absurd ⟨e, he, hc2.1.symm⟩ hnE
    | cons p ps =>
      simp only [List.cons_append, List.cons.injEq] at hc2
      obtain ⟨rfl, hc2⟩ := hc2
      simp only [drun, hst] at hd2
      exact ⟨ps, post2, si2, op2, x2, hc2, hd2, ho2, hl2, hr2, ha2⟩
  have hidge : ∀ e ∈ E, ∀ id o', e.al = some (id, o') → H1.next ≤ id ∧ id < sf.H.next := by
    intro e he id o' ha
    obtain ⟨pre2, post2, si2, op2, x2, hc2, hd2, ho2, hl2, hr2, ha2⟩ := hwit e he
    rw [ha2] at ha
    cases x2 with
    | none => cases ha
    | some y =>
      simp only [Option.map_some, Option.some.injEq, Prod.mk.injEq] at ha
      obtain ⟨rfl, _⟩ := ha
      refine ⟨drun_mono hx.hmono hd2, ?_⟩
      rw [hc2] at hrun
      obtain ⟨s3, g1, g2⟩ := drun_append hrun
      rw [hd2] at g1; injection g1 with g1; subst g1
      simp only [drun] at g2
      cases hs3 : dstep P call ops b hv n0 e.idx si2 with
      | none => simp [hs3] at g2
      | some s4 =>
        simp only [hs3] at g2
        obtain ⟨v4, x4, hr4, rfl⟩ := dstep_light ho2 hl2 hs3
        rw [hr2] at hr4; injection hr4 with hr4; injection hr4 with _ hr4; subst hr4
        have := drun_mono hx.hmono g2
        simp [pushO] at this
        omega
  have hbE : ∀ e ∈ E, ∀ id o', e.al = some (id, o') → (addH E s.H).get id = some o' ∧ (addH E H1).get id = some o' := fun e he id o' ha => ⟨addH_mem hia he ha, addH_mem hia he ha⟩
  have hcase : ∀ x y, (addH E H1).get x = some y → (∃ e ∈ E, e.al = some (x, y)) ∨ ((∀ e ∈ E, ∀ o, e.al ≠ some (x, o)) ∧ H1.get x = some y) := by
    intro x y hxy
    by_cases hex : ∃ e ∈ E, ∃ o, e.al = some (x, o)
    · obtain ⟨e, he, o', ha⟩ := hex
      have := (hbE e he x o' ha).2
      rw [hxy] at this
      injection this with this; subst this
      exact .inl ⟨e, he, ha⟩
    · have hno : ∀ e ∈ E, ∀ o, e.al ≠ some (x, o) := fun e he o ha => hex ⟨e, he, o, ha⟩
      rw [addH_other hno] at hxy
      exact .inr ⟨hno, hxy⟩
  -- where the early blocks lie
  have hplaceE : ∀ e ∈ E, ∀ x y, e.al = some (x, y) → y.live = true → ∃ p O, ρ x = some p ∧ ρ1 x = some p ∧ w.heap[p.blk]? = some O ∧ w1.heap[p.blk]? = some O ∧ (∀ B, OwnsBlk ρ1 H1 B → p.blk ≠ B) := by
    intro e he x y ha hl
    obtain ⟨p, O, hp, hO⟩ := h.sim.place (hbE e he x y ha).1 hl
    have hnoown : ¬ OwnsBlk ρ s.H p.blk := by
      rintro ⟨b2, o2, p2, hb2, ho2, hp2, e2⟩
      have hne : x ≠ b2 := by
        rintro rfl
        have := h.bd x (Nat.le_trans hn1 (hidge e he x y ha).1)
        rw [hb2] at this; cases this
      exact h.sim.apart x b2 y o2 p p2 (hbE e he x y ha).1 (h.sub hx hb2) hne hl ho2 hp hp2 e2.symm
    refine ⟨p, O, hp, hg.ext _ _ hp, hO, hg.keeps.kept _ _ hO hnoown, ?_⟩
    intro B hB e'
    rcases hg.keeps.owns B hB with hge | hob
    · have := heap_lt hO; omega
    · exact hnoown (e' ▸ hob)
  refine ⟨hrun, ⟨?_, ?_, hg.sim.glob⟩, ?_, ?_, hwit, h.nodupE, hfc.2, fun i hi => h.inC i (by simp [hi]), by simpa using h.lsize, ?_, ?_, ?_, ?_, ⟨H1, s.snaps, rfl, fun _ _ => rfl⟩, ?_, Nat.le_trans h.base hn1, h.n0eq, hg.wf h.bd, h.ext.trans hg.ext, ?_, ?_, ?_, ?_, by rw [put_defers]; exact h.dfr⟩
  · intro x y hxy
    rcases hcase x y hxy with ⟨e, he, ha⟩ | ⟨_, hg1⟩
    · have ho2 := h.sim.obj x y (hbE e he x y ha).1
      cases y with
      | dead => trivial
      | map es =>
        obtain ⟨p, O, hp, hp1, hO, hO1, _⟩ := hplaceE e he x _ ha rfl
        obtain ⟨q, ms, k, hq, g0, g1, hh', hk⟩ := ho2
        rw [hp] at hq; injection hq with hq; subst hq
        rw [hO] at hh'; injection hh' with hh'; subst hh'
        exact ⟨p, ms, k, hp1, g0, g1, hO1, KRels.mono hg.ext _ _ hk⟩
      | cells d ed own md =>
        obtain ⟨p, O, hp, hp1, hO, hO1, _⟩ := hplaceE e he x _ ha rfl
        obtain ⟨q, D, ed', fd, hq, hh', hc', r⟩ := ho2
        rw [hp] at hq; injection hq with hq; subst hq
        rw [hO] at hh'; injection hh' with hh'; subst hh'
        exact ⟨p, D, ed', fd, hp1, hO1, hc'.mono hg.ext, r⟩
    · exact hg.sim.obj x y hg1
  · intro x x' y y' p p' hxy hxy' hne hl hw hp hp'
    rcases hcase x y hxy with ⟨e, he, ha⟩ | ⟨hno, hg1⟩
    · obtain ⟨q, O, hq, hq1, _, _, hqn⟩ := hplaceE e he x y ha hl
      rw [hq1] at hp; injection hp with hp; subst hp
      rcases hcase x' y' hxy' with ⟨e', he', ha'⟩ | ⟨hno', hg1'⟩
      · obtain ⟨q', O', hq', hq1', _, _, _⟩ := hplaceE e' he' x' y' ha' (own_live hw)
        rw [hq1'] at hp'; injection hp' with hp'; subst hp'
        exact h.sim.apart x x' y y' q q' (hbE e he x y ha).1 (hbE e' he' x' y' ha').1 hne hl hw hq hq'
      · exact hqn _ ⟨x', y', p', hg1', hw, hp', rfl⟩
    · rcases hcase x' y' hxy' with ⟨e', he', ha'⟩ | ⟨hno', hg1'⟩
      · obtain ⟨q', O', hq', hq1', _, _, hqn'⟩ := hplaceE e' he' x' y' ha' (own_live hw)
        rw [hq1'] at hp'; injection hp' with hp'; subst hp'
        cases hyo : y.own with
        | true => exact fun e => hqn' _ ⟨x, y, p, hg1, hyo, hp, e⟩ rfl
        | false =>
          have hsx := hg.ro x y hg1 hl hyo
          have hxlt : x < s.H.next := by
            rcases Nat.lt_or_ge x s.H.next with h1 | h1
            · exact h1
            · have := h.bd x h1; rw [hsx] at this; cases this
          have hpx : ρ x = some p := by rw [← hg.out x (.inl hxlt)]; exact hp
          exact h.sim.apart x x' y y' p q' (h.sub hx hsx) (hbE e' he' x' y' ha').1 hne hl hw hpx hq'
      · exact hg.sim.apart x x' y y' p p' hg1 hg1' hne hl hw hp hp'
  · intro x hx1 hx2 hno
    rw [hg.out x (.inr hx1)]
    exact h.free x (Nat.le_trans hn1 hx1) hx2 hno
  · have : addT ops E (put s.T o.dst v) = put (addT ops E s.T) o.dst v := by
      apply List.ext_getElem?
      intro t
      by_cases hlt : t < s.T.length
      · by_cases hft : o.dst = some t
        · have hno : ∀ y ∈ E, dstOf ops y.idx ≠ some t := by
            intro y hy hyt
            apply hnE
            refine ⟨y, hy, ?_⟩
            unfold dstOf at hyt
            cases g1 : ops[y.idx]? with
            | none => simp [g1] at hyt
            | some o1 =>
              simp only [g1, Option.bind_some] at hyt
              exact dst_ne hx.dsts (by simpa using g1) (by simpa using ho) hyt hft
          rw [addT_other hno, hft, put_get_eq hlt, put_get_eq (by rw [length_addT]; exact hlt)]
        · rw [put_get_ne hft]
          by_cases hex : ∃ y ∈ E, dstOf ops y.idx = some t
          · obtain ⟨y, hy, hyt⟩ := hex
            rw [addT_mem (by rw [length_put]; exact hlt) hx.dsts h.nodupE hy hyt, addT_mem hlt hx.dsts h.nodupE hy hyt]
          · have hno : ∀ y ∈ E, dstOf ops y.idx ≠ some t := fun y hy hyt => hex ⟨y, hy, hyt⟩
            rw [addT_other hno, addT_other hno, put_get_ne hft]
      · rw [List.getElem?_eq_none (by rw [length_addT, length_put]; omega), List.getElem?_eq_none (by rw [length_put, length_addT]; omega)]
    rw [this]
    exact put_rel (VRels.mono hg.ext _ _ h.frel) o.dst hu
  · intro i hi
    rw [listed_set (by rw [h.lsize]; exact hf), h.listed i hi]
    constructor
    · rintro (rfl | h1 | h1)
      · exact .inl hfc.1
      · exact .inl fun hm => h1 (by simp [hm])
      · exact .inr h1
    · rintro (h1 | h1)
      · by_cases hif : i = f
        · exact .inl hif
        · exact .inr (.inl (by simp [hif, h1]))
      · exact .inr (.inr h1)
  · intro i hi hli k hk hkc
    rw [listed_set (by rw [h.lsize]; exact hf)] at hli
    rcases hli with rfl | hli
    · exact hrdy k hk (by simp [hkc])
    · exact h.done i hi hli k hk (by simp [hkc])
  · intro pre i post e' k hk
    exact h.p2 (f :: pre) i post (by rw [e']; rfl) k hk
  · intro pre i post o' e' ho' hh' k hk
    exact h.p1 (f :: pre) i post o' (by rw [e']; rfl) ho' hh' k (by simp [hk])
  · simp only [List.length_cons]
    rw [h.cnt]
    have := filter_one_less hx.hvn (i := f) ((hx.hvs f).2 ⟨o, ho, hh⟩) (p := fun k => decide (k ∉ c)) (q := fun k => decide (k ∉ f :: c)) (by simp [hfc.1]) (by simp) (by intro j _ hj; simp [hj])
    omega
  · intro x hxx
    have hneq := h.n0eq
    have hbase := h.base
    rw [hg.out x (by omega)]
    exact h.out x hxx
  · intro x h1 h2
    have hneq := h.n0eq
    have hbase := h.base
    have hno : ∀ e ∈ E, ∀ o, e.al ≠ some (x, o) := by
      intro e he o' ha
      have := hidge e he x o' ha
      omega
    rw [addH_other hno]
    refine hg.dom x ?_ (by omega)
    have := h.dom x h1 h2
    rw [addH_other hno] at this
    exact this
  · intro x y hxy hl hw
    rcases hcase x y hxy with ⟨e, he, ha⟩ | ⟨_, hg1⟩
    · exact h.ro x y (hbE e he x y ha).1 hl hw
    · exact h.ro x y (h.sub hx (hg.ro x y hg1 hl hw)) hl hw
  · have hup : ∀ B, OwnsBlk ρ s.H B → OwnsBlk ρ (addH E s.H) B := by
      rintro B ⟨b2, o2, p2, hb2, r⟩
      exact ⟨b2, o2, p2, h.sub hx hb2, r⟩
    refine ⟨Nat.le_trans h.kp.size hg.keeps.size, ?_, ?_, hg.keeps.tape.trans h.kp.tape, hg.keeps.os.trans h.kp.os, hg.keeps.output.trans h.kp.output⟩
    · intro B O hB hno
      refine hg.keeps.kept B O (h.kp.kept B O hB hno) fun hob => ?_
      rcases h.kp.owns B (hup B hob) with hge | hob
      · have := heap_lt hB; omega
      · exact hno hob
    · rintro B ⟨x, y, p, hxy, hw, hp, rfl⟩
      rcases hcase x y hxy with ⟨e, he, ha⟩ | ⟨_, hg1⟩
      · obtain ⟨q, O, hq, hq1, _⟩ := hplaceE e he x y ha (own_live hw)
        rw [hq1] at hp; injection hp with hp; subst hp
        exact h.kp.owns _ ⟨x, y, q, (hbE e he x y ha).1, hw, hq, rfl⟩
      · rcases hg.keeps.owns p.blk ⟨x, y, p, hg1, hw, hp, rfl⟩ with hge | hob
        · left; have := h.kp.size; omega
        · exact h.kp.owns _ (hup _ hob)

/-- A heavy operation in its turn. -/
theorem Inv.heavy (hx : Fix P call ops b hv) {f : Nat} {c : List Nat} {s : St} {E : List En} {ls : Array Bool} {ρ : Map} {a : Act} {w : World}
    (h : Inv P call ops b hv n0 ρ0 H0 w0 a0 sf (f :: c) s E ls ρ a w) {o : Oper} (ho : ops[f]? = some o) (hh : isHeavy P o.op = true) (hnE : ¬ ∃ e ∈ E, e.idx = f)
    (hrdy : ∀ k, (b.getD f 0).testBit k = true → k ∈ f :: c → ∃ e ∈ E, e.idx = k) {K : Act → World → Prop}
    (hK : ∀ s' ρ' a' w', Inv P call ops b hv n0 ρ0 H0 w0 a0 sf c s' E (ls.setIfInBounds f true) ρ' a' w' → K a' w') : wpOp P ops Q f K a w := by
  have hlook := h.looks hx (pre := []) (post := c) (si := s) rfl rfl ho hnE hrdy
  have hsimr : Sim P.globals.size ρ s.H w := h.sim.restrict fun x y hxy => h.sub hx hxy
  have hrun := h.run
  simp only [drun] at hrun
  unfold wpOp
  rw [ho]
  simp only
  rw [wanted_rel h.frel, wanted_congr hlook]
  by_cases hwt : wantedA ops s.T o = true
  · rw [if_pos hwt]
    left
    cases hro : runOp P call s.T o s.H with
    | none => simp [dstep, ho, hh, hwt, hro] at hrun
    | some q =>
      obtain ⟨v, H1⟩ := q
      have hst : dstep P call ops b hv n0 f s = some { T := put s.T o.dst v, H := H1, snaps := H1 :: s.snaps } := by simp [dstep, ho, hh, hwt, hro]
      simp only [hst] at hrun
      have hm1 : H1.next ≤ sf.H.next := drun_mono hx.hmono hrun
      unfold runOp at hro
      split at hro
      case h_2 => cases hro
      rename_i s0 hs0
      have hsemeq : sem P call (addT ops E s.T) o.op = sem P call s.T o.op := sem_congr (ev_congr hlook)
      have hdo := sem_sound hx.hcall (hsemeq.trans hs0) h.frel h.sim.glob s.H w v H1 hsimr hro (fun y hy hy' => by
        refine h.free y hy (by omega) ?_
        intro e he o' ha
        obtain ⟨pre2, post2, si2, op2, x2, hc2, hd2, ho2, hl2, hr2, ha2⟩ := h.wit e he
        cases pre2 with
        | nil =>
          simp only [List.nil_append, List.cons.injEq] at hc2
          exact hnE ⟨e, he, hc2.1.symm⟩
        | cons p ps =>
          simp only [List.cons_append, List.cons.injEq] at hc2
          obtain ⟨rfl, hc2⟩ := hc2
          simp only [drun, hst] at hd2
          rw [ha2] at ha
          cases x2 with
          | none => cases ha
          | some z =>
            simp only [Option.map_some, Option.some.injEq, Prod.mk.injEq] at ha
            have := drun_mono hx.hmono hd2
            simp only at this
            omega) (fun _ _ => h.bd)
      refine wp_of_delivers hdo ?_
      rintro u w1 ⟨ρ1, hg, hu⟩
      exact hK _ ρ1 _ w1 (h.turn hx ho hh hnE hrdy hst hg hu)
  · rw [if_neg hwt]
    have hst : dstep P call ops b hv n0 f s = some { T := put s.T o.dst .undef, H := s.H, snaps := s.H :: s.snaps } := by simp [dstep, ho, hh, hwt]
    exact hK _ ρ _ w (h.turn hx ho hh hnE hrdy hst (Good.refl hsimr) (VRel.undef ρ))

/-- The abstract machine comes to all that the world has done. -/
theorem Inv.norm (hx : Fix P call ops b hv) {ls : Array Bool} {ρ : Map} {a : Act} {w : World} : ∀ (c : List Nat) {s : St} {E : List En}, Inv P call ops b hv n0 ρ0 H0 w0 a0 sf c s E ls ρ a w →
    ∃ c' s' E', Inv P call ops b hv n0 ρ0 H0 w0 a0 sf c' s' E' ls ρ a w ∧ ∀ f r, c' = f :: r → ¬ ∃ e ∈ E', e.idx = f
  | [], s, E, h => ⟨[], s, E, h, by intro f r e; cases e⟩
  | f :: c, s, E, h => by
    by_cases hex : ∃ e ∈ E, e.idx = f
    · obtain ⟨e, he, hef⟩ := hex
      obtain ⟨s', h'⟩ := h.catch hx he hef
      exact Inv.norm hx c h'
    · refine ⟨f :: c, s, E, h, ?_⟩
      intro f' r e
      injection e with e1 e2
      subst e1
      exact hex

theorem drawn_sound (hx : Fix P call ops b hv) (hQ : ∀ ρ' a' w', Good P.globals.size ρ0 H0 w0 ρ' sf.H w' → Frel ρ' sf.T a' → a'.defers = a0.defers → Q .normal a' w') :
    ∀ (fuel : Nat) {c : List Nat} {s : St} {E : List En} {ls : Array Bool} {ρ : Map} {a : Act} {w : World}, Inv P call ops b hv n0 ρ0 H0 w0 a0 sf c s E ls ρ a w →
      ((List.range ops.size).filter fun i => !ls.getD i true).length = fuel → wpAny P .any ops Q fuel ls a w := by
  -- who is ready
  have ready_spec : ∀ {ls : Array Bool} {i : Nat}, i ∈ Region.ready .any ops ls → i < ops.size ∧ ls.getD i true = false ∧ ∃ o, ops[i]? = some o ∧ ∀ k ∈ preds o, ls.getD k true = true := by
    intro ls i hi
    unfold Region.ready at hi
    simp only [List.mem_filter, List.mem_range, Bool.and_eq_true, Bool.not_eq_true'] at hi
    obtain ⟨h1, h2, h3⟩ := hi
    refine ⟨h1, h2, ?_⟩
    cases ho : ops[i]? with
    | none => simp [ho] at h3
    | some o =>
      refine ⟨o, rfl, fun k hk => ?_⟩
      simp only [ho, Option.map_some, Option.getD_some, Array.all_eq_true'] at h3
      unfold preds at hk
      simp only [List.mem_map, List.mem_filter] at hk
      obtain ⟨e, ⟨he, hb⟩, rfl⟩ := hk
      have := h3 e (by simpa using he)
      simp only [hb, Bool.not_true, Bool.false_or] at this
      rw [Array.getD_eq_getD_getElem?] at this ⊢
      cases hl : ls[e.on]? with
      | none => rfl
      | some v => simpa [hl] using this
  have ready_of : ∀ {ls : Array Bool} {i : Nat} {o : Oper}, ls.size = ops.size → ops[i]? = some o → ls.getD i true = false → (∀ k ∈ preds o, ls.getD k true = true) → i ∈ Region.ready .any ops ls := by
    intro ls i o hsz ho hl hp
    have hi : i < ops.size := by obtain ⟨h, _⟩ := Array.getElem?_eq_some_iff.1 ho; exact h
    unfold Region.ready
    simp only [List.mem_filter, List.mem_range, Bool.and_eq_true, Bool.not_eq_true']
    refine ⟨hi, hl, ?_⟩
    simp only [ho, Option.map_some, Option.getD_some, Array.all_eq_true']
    intro e he
    cases hb : Region.binds .any e with
    | false => rfl
    | true =>
      have hk : e.on ∈ preds o := by
        unfold preds
        exact List.mem_map.2 ⟨e, List.mem_filter.2 ⟨by simpa using he, hb⟩, rfl⟩
      have hlt := edges_lt hx.edges ho e.on hk
      have := hp e.on hk
      simp only [Bool.not_true, Bool.false_or]
      rw [Array.getD_eq_getD_getElem?] at this ⊢
      rw [Array.getElem?_eq_getElem (by omega)] at this ⊢
      exact this
  have finish : ∀ {c : List Nat} {s : St} {E : List En} {ls : Array Bool} {ρ : Map} {a : Act} {w : World}, Inv P call ops b hv n0 ρ0 H0 w0 a0 sf c s E ls ρ a w → Region.ready .any ops ls = [] → Q .normal a w := by
    intro c s E ls ρ a w h hr
    obtain ⟨c, s, E, h, hn⟩ := h.norm hx
    have hall : ∀ i, i < ops.size → ls.getD i true = true := by
      intro i
      induction i using Nat.strongRecOn with
      | _ i ih =>
        intro hi
        cases hl : ls.getD i true with
        | true => rfl
        | false =>
          exfalso
          have ho : ops[i]? = some ops[i] := Array.getElem?_eq_getElem hi
          have := ready_of h.lsize ho hl fun k hk => by
            have hlt := edges_lt hx.edges ho k hk
            exact ih k hlt (by omega)
          rw [hr] at this
          cases this
    cases c with
    | cons f r =>
      exfalso
      have hf := h.inC f (by simp)
      rcases (h.listed f hf).1 (hall f hf) with h1 | h1
      · exact h1 (by simp)
      · exact hn f r rfl h1
    | nil =>
      have hE : E = [] := by
        cases E with
        | nil => rfl
        | cons e r => have := h.mem_c hx (e := e) (by simp); cases this
      subst hE
      have hrun := h.run
      simp only [drun, Option.some.injEq] at hrun
      subst hrun
      refine hQ ρ a w ⟨h.sim, h.ext, h.out, ?_, h.dom, h.ro, h.kp⟩ h.frel h.dfr
      have := h.base
      have := h.n0eq
      omega
  intro fuel
  induction fuel with
  | zero =>
    intro c s E ls ρ a w h hc
    have hr : Region.ready .any ops ls = [] := by
      cases hr : Region.ready .any ops ls with
      | nil => rfl
      | cons i r =>
        exfalso
        obtain ⟨h1, h2, _⟩ := ready_spec (ls := ls) (i := i) (by rw [hr]; simp)
        have : i ∈ (List.range ops.size).filter fun i => !ls.getD i true := List.mem_filter.2 ⟨List.mem_range.2 h1, by simp only [h2]; rfl⟩
        rw [List.eq_nil_of_length_eq_zero hc] at this
        cases this
    exact ⟨hr, finish h hr⟩
  | succ fuel ih =>
    intro c s E ls ρ a w h hc
    refine ⟨fun hr => finish h hr, fun i hi => ?_⟩
    obtain ⟨hisz, hil, o, ho, hpr⟩ := ready_spec hi
    obtain ⟨c, s, E, h, hn⟩ := h.norm hx
    have hrdy : ∀ k, (b.getD i 0).testBit k = true → k ∈ c → ∃ e ∈ E, e.idx = k := by
      intro k hk hkc
      obtain ⟨j, hj, hjk⟩ := closed_bits hx.closed ho hk
      have hjl := hpr j hj
      have hjsz : j < ops.size := by have := edges_lt hx.edges ho j hj; omega
      rcases hjk with rfl | hjk
      · rcases (h.listed j hjsz).1 hjl with h1 | h1
        · exact absurd hkc h1
        · exact h1
      · exact h.done j hjsz hjl k hjk hkc
    have hcount : ((List.range ops.size).filter fun j => !(ls.setIfInBounds i true).getD j true).length = fuel := by
      have := filter_one_less (List.nodup_range (n := ops.size)) (i := i) (List.mem_range.2 hisz) (p := fun j => !ls.getD j true) (q := fun j => !(ls.setIfInBounds i true).getD j true) (by simp only [hil]; rfl)
        (by
          have := (listed_set (ls := ls) (i := i) (j := i) (by rw [h.lsize]; exact hisz)).2 (.inl rfl)
          simp only [this]; rfl)
        (by
          intro j _ hj
          have := listed_set (ls := ls) (i := i) (j := j) (by rw [h.lsize]; exact hisz)
          simp only [hj, false_or] at this
          have e : (ls.setIfInBounds i true).getD j true = ls.getD j true := by rw [Bool.eq_iff_iff]; exact this
          simp only [e])
      omega
    cases hh : isHeavy P o.op with
    | false => exact h.early hx ho hh hil hrdy fun E' ρ' a' w' h' => ih h' hcount
    | true =>
      have hic : i ∈ c := by
        have : ¬ (i ∉ c ∨ ∃ e ∈ E, e.idx = i) := by rw [← h.listed i hisz, hil]; simp
        rcases Classical.em (i ∈ c) with h1 | h1
        · exact h1
        · exact absurd (.inl h1) this
      have hnE : ¬ ∃ e ∈ E, e.idx = i := by
        intro h1
        have := (h.listed i hisz).2 (.inr h1)
        rw [hil] at this; cases this
      obtain ⟨pre, post, hce⟩ := List.append_of_mem hic
      cases pre with
      | cons f r =>
        exfalso
        have hb := h.p1 (f :: r) i post o hce ho hh f (by simp)
        exact hn f (r ++ i :: post) hce (hrdy f hb (by rw [hce]; simp))
      | nil =>
        simp only [List.nil_append] at hce
        subst hce
        exact h.heavy hx ho hh hnE hrdy fun s' ρ' a' w' h' => ih h' hcount

theorem heavies_spec (P : Program) : ∀ (os : List Oper) (i : Nat), (∀ h, h ∈ heavies P os i ↔ ∃ k o, h = i + k ∧ os[k]? = some o ∧ isHeavy P o.op = true) ∧ (heavies P os i).Nodup
  | [], i => ⟨fun h => by simp [heavies], List.nodup_nil⟩
  | o :: os, i => by
    obtain ⟨h1, h2⟩ := heavies_spec P os (i + 1)
    have hmem : ∀ h, (∃ k o', h = i + k ∧ (o :: os)[k]? = some o' ∧ isHeavy P o'.op = true) ↔ (h = i ∧ isHeavy P o.op = true) ∨ h ∈ heavies P os (i + 1) := by
      intro h
      rw [h1 h]
      constructor
      · rintro ⟨k, o', rfl, hk, hh⟩
        cases k with
        | zero => simp at hk; subst hk; exact .inl ⟨rfl, hh⟩
        | succ k => exact .inr ⟨k, o', by omega, by simpa using hk, hh⟩
      · rintro (⟨rfl, hh⟩ | ⟨k, o', rfl, hk, hh⟩)
        · exact ⟨0, o, rfl, rfl, hh⟩
        · exact ⟨k + 1, o', by omega, by simpa using hk, hh⟩
    unfold heavies
    split
    · rename_i hh
      refine ⟨fun h => ?_, ?_⟩
      · rw [hmem h]; simp [hh]
      · refine List.nodup_cons.2 ⟨fun hm => ?_, h2⟩
        obtain ⟨k, o', e, _⟩ := (h1 i).1 hm
        omega
    · rename_i hh
      refine ⟨fun h => ?_, h2⟩
      rw [hmem h]
      simp only [hh, and_false, false_or]
      simp

theorem draw_sound (hcall : CallOk P call) (hmono : CallMono call) (hm : P.follows .mixedOrders = true) {id : Nat} {b : Array Nat} {c : List Nat} {T T' : List AV} {H H' : Heap} {ρ : Map} {a : Act} {w : World}
    (h : drawRun P call ops b (heavies P ops.toList 0) c T H = some (T', H')) (hs : Sim P.globals.size ρ H w) (hf : Frel ρ T a) (hwf : Wf H) (hfree : ∀ b, H.next ≤ b → b < H'.next → ρ b = none)
    (hQ : ∀ ρ' a' w', Good P.globals.size ρ H w ρ' H' w' → Frel ρ' T' a' → a'.defers = a.defers → Q .normal a' w') : (Code.region id ops true).wp P Q a w := by
  unfold drawRun at h
  split at h
  case isFalse => cases h
  rename_i hok
  split at h
  case h_2 => cases h
  rename_i sf hrun
  simp only [Option.some.injEq, Prod.mk.injEq] at h
  obtain ⟨rfl, rfl⟩ := h
  unfold drawOk at hok
  simp only [Bool.and_eq_true, beq_iff_eq] at hok
  obtain ⟨⟨⟨⟨⟨⟨h1, h2⟩, h3⟩, h4⟩, h5⟩, h6⟩, h7⟩ := hok
  have hhv := heavies_spec P ops.toList 0
  have hx : Fix P call ops b (heavies P ops.toList 0) := ⟨hcall, hmono, h1, h2, nodupB_ok h3, h4, fun k => by
    rw [hhv.1 k]
    constructor
    · rintro ⟨j, o, rfl, hj, hh⟩; exact ⟨o, by simpa using hj, hh⟩
    · rintro ⟨o, ho, hh⟩; exact ⟨k, o, by omega, by simpa using ho, hh⟩, hhv.2⟩
  have hnc := nodupB_ok h5
  have hspec := fun {pre : List Nat} {i : Nat} {post : List Nat} (e : c = pre ++ i :: post) => canon_spec h7 e
  have hinC : ∀ i ∈ c, i < ops.size := by
    intro i hi
    obtain ⟨pre, post, e⟩ := List.append_of_mem hi
    obtain ⟨⟨o, ho⟩, _⟩ := hspec e
    obtain ⟨h, _⟩ := Array.getElem?_eq_some_iff.1 ho
    exact h
  -- every operation stands in the order
  have hallc : ∀ i, i < ops.size → i ∈ c := by
    intro i hi
    have key : ∀ (l : List Nat), l.Nodup → (∀ x ∈ l, x < ops.size) → ((List.range ops.size).filter fun x => decide (x ∈ l)).length = l.length := by
      intro l
      induction l with
      | nil => intro _ _; simp
      | cons x xs ih =>
        intro hn hlt
        have hn' := List.nodup_cons.1 hn
        rw [filter_one_less (List.nodup_range (n := ops.size)) (i := x) (List.mem_range.2 (hlt x (by simp))) (p := fun y => decide (y ∈ x :: xs)) (q := fun y => decide (y ∈ xs)) (by simp) (by simp [hn'.1]) (by intro j _ hj; simp [hj]),
          ih hn'.2 fun y hy => hlt y (by simp [hy])]
        simp
    have hk := key c hnc hinC
    rcases Classical.em (i ∈ c) with h | h
    · exact h
    · exfalso
      have h2 := filter_one_less (List.nodup_range (n := ops.size)) (i := i) (List.mem_range.2 hi) (p := fun _ => true) (q := fun y => decide (y ≠ i)) rfl (by simp) (by intro j _ hj; simp [hj])
      have h3 : ((List.range ops.size).filter fun x => decide (x ∈ c)).length ≤ ((List.range ops.size).filter fun y => decide (y ≠ i)).length := by
        apply filter_le
        intro x _ hx'
        simp only [decide_eq_true_eq] at hx' ⊢
        rintro rfl
        exact h hx'
      have h4 : (List.range ops.size).filter (fun _ => true) = List.range ops.size := List.filter_eq_self.2 fun _ _ => rfl
      rw [h4, List.length_range] at h2
      omega
  refine wp_region_any hm ?_
  have hgd := good_drawn (G := P.globals.size) (ρ := ρ) (H := H) (w := w) hs
  have hrep : ∀ i, i < ops.size → (Array.replicate ops.size false).getD i true = false := by
    intro i hi
    rw [Array.getD_eq_getD_getElem?, Array.getElem?_replicate, if_pos hi]; rfl
  refine drawn_sound (n0 := H.next) (ρ0 := ρ) (H0 := H) (w0 := w) (a0 := a) (sf := sf) hx hQ ops.size (c := c) (s := { T := T, H := H, snaps := [H] }) (E := []) (ρ := ρ) ?_ ?_
  · refine ⟨hrun, hgd.sim, fun x hx1 hx2 _ => hfree x hx1 hx2, hf, by simp, by simp, hnc, hinC, by simp, ?_, ?_, ?_, ?_, ⟨H, [], rfl, fun _ _ => rfl⟩, ?_, Nat.le_refl _, rfl, hwf, Ext.refl ρ, fun _ _ => rfl, fun x hx1 _ => hx1, fun x o hx1 _ _ => hx1, hgd.keeps, rfl⟩
    · intro i hi
      rw [hrep i hi]
      simp [hallc i hi]
    · intro i hi hl
      rw [hrep i hi] at hl; cases hl
    · intro pre i post e k hk hmem
      obtain ⟨_, g2, _⟩ := hspec e
      rcases g2 k hk with h | h
      · simp at h
      · rw [e] at hnc
        exact (List.nodup_append.1 hnc).2.2 k h k hmem rfl
    · intro pre i post o e ho hh k hk
      obtain ⟨_, _, g3⟩ := hspec e
      exact g3 o ho hh k (.inr hk)
    · have : (heavies P ops.toList 0).filter (fun h => decide (h ∉ c)) = [] := by
        rw [List.filter_eq_nil_iff]
        intro k hk
        obtain ⟨o, ho, _⟩ := (hx.hvs k).1 hk
        have hi : k < ops.size := by obtain ⟨h, _⟩ := Array.getElem?_eq_some_iff.1 ho; exact h
        simp [hallc k hi]
      rw [this]; rfl
  · rw [List.filter_congr (q := fun _ => true) (fun i hi => by simp [hrep i (List.mem_range.1 hi)])]
    rw [List.filter_eq_self.2 fun _ _ => rfl, List.length_range]

theorem region_sound (hcall : CallOk P call) (hmono : CallMono call) (hm : P.follows .mixedOrders = true) {id : Nat} {draw : Bool} {T T' : List AV} {H H' : Heap} {ρ : Map} {a : Act} {w : World}
    (h : runRegion P call ops draw T H = some (T', H')) (hs : Sim P.globals.size ρ H w) (hf : Frel ρ T a) (hwf : Wf H) (hfree : ∀ b, H.next ≤ b → b < H'.next → ρ b = none)
    (hQ : ∀ ρ' a' w', Good P.globals.size ρ H w ρ' H' w' → Frel ρ' T' a' → a'.defers = a.defers → Q .normal a' w') : (Code.region id ops draw).wp P Q a w := by
  unfold runRegion at h
  cases draw with
  | true => exact draw_sound hcall hmono hm (by simpa using h) hs hf hwf hfree hQ
  | false => exact text_sound hcall hmono (by simpa using h) hs hf hwf hfree hQ

end
end Go.Abs
