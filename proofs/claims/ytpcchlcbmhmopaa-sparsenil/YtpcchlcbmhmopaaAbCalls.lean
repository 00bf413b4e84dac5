/- Bodies and calls: what the abstract machine says of a call, the model does. -/
import Derived.Test.YtpcchlcbmhmopaaAbDraw6
import Derived.LoopN
namespace Go.Abs
set_option linter.unusedVariables false
set_option linter.unusedSimpArgs false

section
variable {P : Program}

def exitOf : AX → Exit
  | .normal => .normal
  | .exit id => .exit id
  | .ret => .ret

theorem step_scope {b : Frame} {a : Act} {k : List Item} {cs : List Frame} {w : World} {c : Code} :
    step P (lone (b.at a (.code (.scope c) :: k)) cs w) = .next (lone (b.at a (.code c :: .inScope c :: k)) cs w) :=
  step_lone_go (by simp [stepG, stepG.exec, Frame.at])

theorem step_inScope {b : Frame} {a : Act} {k : List Item} {cs : List Frame} {w : World} {c : Code} :
    step P (lone (b.at a (.inScope c :: k)) cs w) = .next (lone (b.at a k) cs w) :=
  step_lone_go (by simp [stepG, stepG.exec, Frame.at])

/-- A scope that no goto leaves. -/
theorem wp_scope_plain {Q : Exit → Act → World → Prop} {a : Act} {w : World} {c : Code} (h : c.wp P (fun e a w => Q e a w ∧ ∀ l, e ≠ .goto l) a w) : (Code.scope c).wp P Q a w := by
  intro b k cs
  obtain ⟨e, a₁, w₁, ⟨hq, hng⟩, harr⟩ := h b (.inScope c :: k) cs
  refine ⟨e, a₁, w₁, hq, ?_⟩
  cases e with
  | normal => exact .head step_scope (Steps.trans harr (.one step_inScope))
  | exit id => exact fun k' hk => .head step_scope (harr k' (by simpa [exitTo] using hk))
  | goto l => exact absurd rfl (hng l)
  | ret => exact .of_steps (.one step_scope) harr
  | panic ch => exact .of_steps (.one step_scope) harr
  | outgrown => exact .of_steps (b := b) (k := k) (cs := cs) (e := .outgrown) (.one step_scope) harr

abbrev Ok (P : Program) (ρ : Map) (H : Heap) (w : World) (a : Act) (T' : List AV) (H' : Heap) (R : Act → World → Prop) : Prop :=
  ∀ ρ' a' w', Good P.globals.size ρ H w ρ' H' w' → Frel ρ' T' a' → a'.defers = a.defers → R a' w'

theorem Ok.after {ρ ρ1 : Map} {H H1 H' : Heap} {w w1 : World} {a a1 : Act} {T' : List AV} {R : Act → World → Prop} (h : Ok P ρ H w a T' H' R) (hg : Good P.globals.size ρ H w ρ1 H1 w1) (hd : a1.defers = a.defers) : Ok P ρ1 H1 w1 a1 T' H' R :=
  fun ρ' a' w' hg' hf' hd' => h ρ' a' w' (hg.trans hg') hf' (hd'.trans hd)

theorem code_sound {call : CallFn} (hcall : CallOk P call) (hmono : CallMono call) (hm : P.follows .mixedOrders = true) {n : Nat} : ∀ (c : Code) {T T' : List AV} {H H' : Heap} {e : AX} {ρ : Map} {a : Act} {w : World} {Q : Exit → Act → World → Prop},
    runCode P call n c T H = some (e, T', H') → Sim P.globals.size ρ H w → Frel ρ T a → Wf H → (∀ b, H.next ≤ b → b < H'.next → ρ b = none) → Ok P ρ H w a T' H' (Q (exitOf e)) → c.wp P Q a w := by
  intro c
  induction c with
  | skip =>
    intro T T' H H' e ρ a w Q h hs hf hwf hfree hQ
    simp only [runCode, Option.some.injEq, Prod.mk.injEq] at h
    obtain ⟨rfl, rfl, rfl⟩ := h
    exact wp_skip (hQ ρ a w (Good.refl hs) hf rfl)
  | label l =>
    intro T T' H H' e ρ a w Q h hs hf hwf hfree hQ
    simp only [runCode, Option.some.injEq, Prod.mk.injEq] at h
    obtain ⟨rfl, rfl, rfl⟩ := h
    exact wp_label (hQ ρ a w (Good.refl hs) hf rfl)
  | exit id =>
    intro T T' H H' e ρ a w Q h hs hf hwf hfree hQ
    simp only [runCode, Option.some.injEq, Prod.mk.injEq] at h
    obtain ⟨rfl, rfl, rfl⟩ := h
    exact wp_exit (hQ ρ a w (Good.refl hs) hf rfl)
  | ret =>
    intro T T' H H' e ρ a w Q h hs hf hwf hfree hQ
    simp only [runCode, Option.some.injEq, Prod.mk.injEq] at h
    obtain ⟨rfl, rfl, rfl⟩ := h
    exact wp_ret (hQ ρ a w (Good.refl hs) hf rfl)
  | region id ops draw =>
    intro T T' H H' e ρ a w Q h hs hf hwf hfree hQ
    simp only [runCode] at h
    split at h
    · rename_i T1 H1 h1
      simp only [Option.some.injEq, Prod.mk.injEq] at h
      obtain ⟨rfl, rfl, rfl⟩ := h
      exact region_sound hcall hmono hm h1 hs hf hwf hfree hQ
    · cases h
  | seq x y ihx ihy =>
    intro T T' H H' e ρ a w Q h hs hf hwf hfree hQ
    simp only [runCode] at h
    refine wp_seq ?_
    split at h
    · rename_i T1 H1 h1
      have m1 := runCode_mono hmono x _ _ _ _ _ h1
      have m2 := runCode_mono hmono y _ _ _ _ _ h
      refine ihx h1 hs hf hwf (fun b hb hb' => hfree b hb (by omega)) ?_
      intro ρ1 a1 w1 hg hf1 hd1
      exact ihy h hg.sim hf1 (hg.wf hwf) (fun b hb hb' => by rw [hg.out b (.inr hb)]; exact hfree b (by omega) hb') (hQ.after hg hd1)
    · rename_i hne
      refine ihx h hs hf hwf hfree ?_
      intro ρ1 a1 w1 hg hf1 hd1
      have := hQ ρ1 a1 w1 hg hf1 hd1
      cases e with
      | normal => exact absurd h (hne _ _)
      | exit id => exact this
      | ret => exact this
  | cond c x y ihx ihy =>
    intro T T' H H' e ρ a w Q h hs hf hwf hfree hQ
    simp only [runCode] at h
    split at h
    · rename_i hc
      have := ev_rel hf hs.glob hc
      exact wp_cond_true this (ihx h hs hf hwf hfree hQ)
    · rename_i hc
      have := ev_rel hf hs.glob hc
      exact wp_cond_false this (ihy h hs hf hwf hfree hQ)
    · cases h
  | block id body ih =>
    intro T T' H H' e ρ a w Q h hs hf hwf hfree hQ
    simp only [runCode] at h
    refine wp_block ?_
    split at h
    · rename_i id' T1 H1 h1
      split at h
      · rename_i hid
        simp only [Option.some.injEq, Prod.mk.injEq] at h
        obtain ⟨rfl, rfl, rfl⟩ := h
        refine ih h1 hs hf hwf hfree ?_
        intro ρ1 a1 w1 hg hf1 hd1
        simp only [exitOf, Exit.inBlock, hid, if_true]
        exact hQ ρ1 a1 w1 hg hf1 hd1
      · rename_i hid
        simp only [Option.some.injEq, Prod.mk.injEq] at h
        obtain ⟨rfl, rfl, rfl⟩ := h
        refine ih h1 hs hf hwf hfree ?_
        intro ρ1 a1 w1 hg hf1 hd1
        simp only [exitOf, Exit.inBlock, hid, if_false]
        exact hQ ρ1 a1 w1 hg hf1 hd1
    · rename_i hne
      refine ih h hs hf hwf hfree ?_
      intro ρ1 a1 w1 hg hf1 hd1
      have := hQ ρ1 a1 w1 hg hf1 hd1
      cases e with
      | normal => exact this
      | exit id' => exact absurd h (hne _ _ _)
      | ret => exact this
  | loop body ih =>
    intro T T' H H' e ρ a w Q h hs hf hwf hfree hQ
    simp only [runCode] at h
    have key : ∀ (m : Nat) {T : List AV} {H : Heap} {ρ : Map} {a : Act} {w : World}, runLoop (runCode P call n body) m T H = some (e, T', H') → Sim P.globals.size ρ H w → Frel ρ T a → Wf H → (∀ b, H.next ≤ b → b < H'.next → ρ b = none) →
        Ok P ρ H w a T' H' (Q (exitOf e)) → Code.rounds P body Q m a w := by
      intro m
      induction m with
      | zero => intro T H ρ a w h; cases h
      | succ m ihm =>
        intro T H ρ a w h hs hf hwf hfree hQ
        simp only [runLoop] at h
        rw [rounds_succ]
        split at h
        · rename_i T1 H1 h1
          have m1 := runCode_mono hmono body _ _ _ _ _ h1
          have m2 := runLoop_mono (fun T H e T' H' h => runCode_mono hmono body T T' H H' e h) m _ _ _ _ _ h
          refine ih h1 hs hf hwf (fun b hb hb' => hfree b hb (by omega)) ?_
          intro ρ1 a1 w1 hg hf1 hd1
          exact ihm h hg.sim hf1 (hg.wf hwf) (fun b hb hb' => by rw [hg.out b (.inr hb)]; exact hfree b (by omega) hb') (hQ.after hg hd1)
        · rename_i hne
          refine ih h hs hf hwf hfree ?_
          intro ρ1 a1 w1 hg hf1 hd1
          have := hQ ρ1 a1 w1 hg hf1 hd1
          cases e with
          | normal => exact absurd h (hne _ _)
          | exit id => exact this
          | ret => exact this
    exact wp_loop_rounds n (key n h hs hf hwf hfree hQ)
  | scope body ih =>
    intro T T' H H' e ρ a w Q h hs hf hwf hfree hQ
    simp only [runCode] at h
    refine wp_scope_plain (ih h hs hf hwf hfree ?_)
    intro ρ1 a1 w1 hg hf1 hd1
    exact ⟨hQ ρ1 a1 w1 hg hf1 hd1, by intro l; cases e <;> simp [exitOf]⟩
  | rangeFunc f ps x y ihx ihy => intro T T' H H' e ρ a w Q h; simp [runCode] at h
  | goto l => intro T T' H H' e ρ a w Q h; simp [runCode] at h
  | refuse why => intro T T' H H' e ρ a w Q h; simp [runCode] at h

/-! ## calls -/
theorem results_ok {G : Nat} {ρ : Map} {H : Heap} {w : World} (hs : Sim G ρ H w) {T : List AV} {tmps : Array Value} (hf : VRels ρ T tmps.toList)
    {F : ResultVar → Sem Value} (hF1 : ∀ t, F (.tmp t) = pure (tmps.getD t Go.undef)) (hF2 : ∀ a t, F (.cell a t) = (asAddr (tmps.getD a Go.undef) >>= fun x => loadVar t x)) : ∀ {rs : List ResultVar} {vs : List AV}, resultsA P T H rs = some vs →
    ∃ us : List Value, (rs.mapM (m := Sem) F).run P w = .ok us w ∧ VRels ρ vs us
  | [], vs, h => by
    simp only [resultsA, Option.some.injEq] at h
    subst h
    exact ⟨[], by simp, rfl⟩
  | .tmp t :: rs, vs, h => by
    simp only [resultsA] at h
    cases hr : resultsA P T H rs with
    | none => simp [hr] at h
    | some vs' =>
      simp only [hr, Option.some.injEq] at h
      subst h
      obtain ⟨us, hu, hrel⟩ := results_ok hs hf hF1 hF2 hr
      refine ⟨tmps.getD t Go.undef :: us, ?_, _, us, rfl, getD_rel hf t, hrel⟩
      simp only [List.mapM_cons, hF1, Sem.run_bind, Sem.run_pure, Result.andThen_ok, hu]
  | .cell a t :: rs, vs, h => by
    simp only [resultsA] at h
    have ha := getD_rel hf a
    split at h
    case h_2 => cases h
    rename_i b o g n hb hg hn
    split at h
    case h_2 => cases h
    rename_i x hx
    split at h
    case h_2 => cases h
    rename_i v vs' hv hr
    simp only [Option.some.injEq] at h
    subst h
    rw [hb] at ha
    obtain ⟨p, hp, he⟩ := ha
    obtain ⟨u, hu, hrel1⟩ := var_read (P := P) hs hg hn hx hp hv
    obtain ⟨us, hus, hrel⟩ := results_ok hs hf hF1 hF2 hr
    refine ⟨u :: us, ?_, u, us, rfl, hrel1, hrel⟩
    have hA : asAddr (tmps.getD a Go.undef) = pure ⟨p.blk, p.off + o, none⟩ := by rw [he]; rfl
    simp only [List.mapM_cons, hF2, hA, Sem.run_bind, Sem.run_pure, Result.andThen_ok, hu, hus]

theorem tupled_rel {ρ : Map} {vs : List AV} {us : List Value} (h : VRels ρ vs us) : VRel ρ (tupled vs) (if h : us.toArray.size = 1 then us.toArray[0] else .tuple us.toArray) := by
  cases vs with
  | nil => cases h; exact ⟨#[], rfl, rfl⟩
  | cons v r =>
    obtain ⟨u, l, rfl, hv, hr⟩ := h
    cases r with
    | nil => cases hr; simpa [tupled] using hv
    | cons v2 r2 =>
      obtain ⟨u2, l2, rfl, hv2, hr2⟩ := hr
      have : ¬ (u :: u2 :: l2).toArray.size = 1 := by simp
      rw [dif_neg this]
      exact ⟨_, rfl, u, _, rfl, hv, u2, _, rfl, hv2, hr2⟩

theorem VRels.replicate (ρ : Map) : ∀ n : Nat, VRels ρ (List.replicate n .undef) (List.replicate n Go.undef)
  | 0 => rfl
  | n + 1 => ⟨Go.undef, _, rfl, VRel.undef ρ, VRels.replicate ρ n⟩

theorem body_sound {call : CallFn} (hcall : CallOk P call) (hmono : CallMono call) (hm : P.follows .mixedOrders = true) {n : Nat} {f : FuncId} {fn : Func} (hfn : P.funcs[f]? = some fn) {args : List AV} {H H' : Heap} {v : AV}
    (h : runBody P call n fn args H = some (v, H')) {ρ : Map} {w : World} {us : Array Value} (hs : Sim P.globals.size ρ H w) (hwf : Wf H) (hfree : ∀ b, H.next ≤ b → b < H'.next → ρ b = none) (hargs : VRels ρ args us.toList) :
    fn.body.isSome = true ∧ Calls P f us w fun e w' => ∃ u, e = .returned u ∧ ∃ ρ', Good P.globals.size ρ H w ρ' H' w' ∧ VRel ρ' v u := by
  unfold runBody at h
  split at h
  · cases h
  rename_i c hb
  refine ⟨by simp [hb], ?_⟩
  have hlen := hargs.length
  simp at hlen
  have hf0 : Frel ρ (args ++ List.replicate (fn.ntmps - args.length) .undef) { tmps := us ++ Array.replicate (fn.ntmps - us.size) Go.undef, defers := [] } := by
    simp only [Frel, Array.toList_append, Array.toList_replicate]
    rw [hlen]
    exact hargs.append (VRels.replicate ρ _)
  have fin : ∀ {T : List AV} {H1 : Heap} {vs : List AV}, resultsA P T H1 fn.results.toList = some vs → v = tupled vs → H1 = H' →
      Ok P ρ H w { tmps := us ++ Array.replicate (fn.ntmps - us.size) Go.undef, defers := [] } T H' fun a' w' => a'.defers = [] ∧ ∃ u, (results fn a'.tmps).run P w' = .ok u w' ∧ (∃ u', Ending.returned u = .returned u' ∧ ∃ ρ', Good P.globals.size ρ H w ρ' H' w' ∧ VRel ρ' v u') := by
    intro T H1 vs hr hv hH ρ1 a1 w1 hg hf1 hd1
    subst hH
    refine ⟨hd1, ?_⟩
    have key : ∀ F : ResultVar → Sem Value, (∀ t, F (.tmp t) = pure (a1.tmps.getD t Go.undef)) → (∀ a t, F (.cell a t) = (asAddr (a1.tmps.getD a Go.undef) >>= fun x => loadVar t x)) →
        ∃ u, (do let vs ← fn.results.mapM F; pure (if h : vs.size = 1 then vs[0] else Value.tuple vs) : Sem Value).run P w1 = .ok u w1 ∧ VRel ρ1 v u := by
      intro F h1 h2
      obtain ⟨rs, hrs, hrel⟩ := results_ok (P := P) hg.sim hf1 h1 h2 hr
      refine ⟨_, ?_, by rw [hv]; exact tupled_rel hrel⟩
      rw [Array.mapM_eq_mapM_toList]
      simp only [Sem.run_bind, Sem.run_map, hrs, Result.andThen_ok]
      rfl
    obtain ⟨u, hu, hr⟩ : ∃ u, (results fn a1.tmps).run P w1 = .ok u w1 ∧ VRel ρ1 v u := by
      unfold results
      refine key _ ?_ ?_
      · intro t; rfl
      · intro a t; rfl
    exact ⟨u, hu, u, rfl, ρ1, hg, hr⟩
  split at h
  · rename_i T H1 h1
    split at h
    · rename_i vs hr
      simp only [Option.some.injEq, Prod.mk.injEq] at h
      refine calls_of_wp hfn hb (code_sound hcall hmono hm c h1 hs hf0 hwf (by rw [h.2]; exact hfree) ?_)
      have := fin hr h.1.symm h.2
      rw [h.2]
      exact this
    · cases h
  · rename_i T H1 h1
    split at h
    · rename_i vs hr
      simp only [Option.some.injEq, Prod.mk.injEq] at h
      refine calls_of_wp hfn hb (code_sound hcall hmono hm c h1 hs hf0 hwf (by rw [h.2]; exact hfree) ?_)
      have := fin hr h.1.symm h.2
      rw [h.2]
      exact this
    · cases h
  · cases h

/-- Functions told by hand. -/
def PrimsOk (P : Program) (prims : Prims) : Prop := PrimsMono prims ∧ ∀ f g, prims f = some g → ∀ (args : List AV) (H : Heap) (v : AV) (H' : Heap), g args H = some (v, H') → ∀ (ρ : Map) (w : World) (us : Array Value), Sim P.globals.size ρ H w →
    Wf H → (∀ b, H.next ≤ b → b < H'.next → ρ b = none) → VRels ρ args us.toList → Does P ρ H w v H' (callFunc f us)

theorem noPrims_ok (P : Program) : PrimsOk P noPrims := ⟨by intro f g h; simp [noPrims] at h, by intro f g h; simp [noPrims] at h⟩

/-- No function is called as the runtime's count of goroutines is. -/
def plainNames (P : Program) : Bool := P.funcs.all fun fn => !(fn.name == "runtime.NumGoroutine")

theorem acall_ok {prims : Prims} (hp : PrimsOk P prims) (hm : P.follows .mixedOrders = true) (hn : plainNames P = true) : ∀ n, CallOk P (acall P prims n)
  | 0 => by intro f args H v H' h; cases h
  | n + 1 => by
    intro f args H v H' h ρ w us hs hwf hfree hargs
    simp only [acall] at h
    split at h
    · rename_i g hg
      exact hp.2 f g hg args H v H' h ρ w us hs hwf hfree hargs
    · split at h
      · rename_i fn hfn
        obtain ⟨hb, hc⟩ := body_sound (acall_ok hp hm hn n) (acall_mono hp.1 n) hm hfn h hs hwf hfree hargs
        have hname : (fn.name == "runtime.NumGoroutine") = false := by
          unfold plainNames at hn
          rw [Array.all_eq_true'] at hn
          have := hn fn (Array.mem_of_getElem? hfn)
          simpa using this
        have hnone : fn.body.isNone = false := by cases hbb : fn.body <;> simp_all
        unfold Does Delivers
        have : (callFunc f us).run P w = .ok (.enter f us) w := by
          simp only [callFunc, Sem.run_bind, run_program, Result.andThen_ok, hfn, hname, hnone, Bool.false_eq_true, if_false, Sem.run_pure]
        rw [this]
        exact hc
      · cases h

/-- THE LAW: what the abstract machine says of a call, the model does. -/
theorem acall_sound {prims : Prims} (hp : PrimsOk P prims) (hm : P.follows .mixedOrders = true) (hn : plainNames P = true) {n : Nat} {f : FuncId} {fn : Func} (hfn : P.funcs[f]? = some fn) (hnp : prims f = none) {args : List AV} {H H' : Heap} {v : AV}
    (h : acall P prims n f args H = some (v, H')) {ρ : Map} {w : World} {us : Array Value} (hs : Sim P.globals.size ρ H w) (hwf : Wf H) (hfree : ∀ b, H.next ≤ b → b < H'.next → ρ b = none) (hargs : VRels ρ args us.toList) :
    Calls P f us w fun e w' => ∃ u, e = .returned u ∧ ∃ ρ', Good P.globals.size ρ H w ρ' H' w' ∧ VRel ρ' v u := by
  cases n with
  | zero => cases h
  | succ n =>
    simp only [acall, hnp, hfn] at h
    exact (body_sound (acall_ok hp hm hn n) (acall_mono hp.1 n) hm hfn h hs hwf hfree hargs).2

end
end Go.Abs
