/- Texts on the abstract machine, joined. -/
import Derived.Test.YtllnhgcndinodaaKit02
import Derived.RangeFuncNested
import Derived.RangeFuncLeaves
import Derived.Test.YtllnhgcndinodaaKit01
import Derived.Below
import Derived.Carry
import Derived.Handed
import Derived.ChangeShapes
import Derived.WideShapes
import Derived.OpenShut
import Derived.ShutString
import Derived.ChangeOld

/- Blocks that the abstract memory knows nothing of; the marks that ranges over functions leave. -/
namespace Go.Abs
set_option linter.unusedVariables false
set_option linter.unusedSimpArgs false

/-- No live block lies there. -/
def Hidden (ρ : Map) (H : Heap) (B : Nat) : Prop := ∀ b o p, H.get b = some o → o.live = true → ρ b = some p → p.blk ≠ B
theorem Hidden.not_owned {ρ : Map} {H : Heap} {B : Nat} (h : Hidden ρ H B) : ¬ OwnsBlk ρ H B := by
  rintro ⟨b, o, p, hb, ho, hp, e⟩; exact h b o p hb (own_live ho) hp e
theorem Hidden.good {G : Nat} {ρ ρ' : Map} {H H' : Heap} {w w' : World} {B : Nat} (h : Hidden ρ H B) (hs : Sim G ρ H w) (hg : Good G ρ H w ρ' H' w') (hB : B < w.heap.size) : Hidden ρ' H' B := by
  intro b o p hb hl hp e
  cases ho : o.own with
  | true =>
    rcases hg.keeps.owns B ⟨b, o, p, hb, ho, hp, e⟩ with h1 | h1
    · omega
    · exact h.not_owned h1
  | false =>
    have hb0 := hg.ro b o hb hl ho
    obtain ⟨p0, _, hp0, _⟩ := hs.place hb0 hl
    have := hg.ext b p0 hp0
    rw [hp] at this
    cases this
    exact h b o p hb0 hl hp0 e
theorem Hidden.fresh {G : Nat} {ρ : Map} {H : Heap} {w : World} {B : Nat} (hs : Sim G ρ H w) (hB : w.heap.size ≤ B) : Hidden ρ H B := by
  intro b o p hb hl hp e
  obtain ⟨p0, O, hp0, hO⟩ := hs.place hb hl
  rw [hp] at hp0
  cases hp0
  have := heap_lt hO
  omega
theorem Good.kept_hidden {G : Nat} {ρ ρ' : Map} {H H' : Heap} {w w' : World} {B : Nat} {o : Obj} (hg : Good G ρ H w ρ' H' w') (hB : w.heap[B]? = some o) (h : Hidden ρ H B) : w'.heap[B]? = some o := hg.keeps.kept B o hB h.not_owned

/-- Only blocks of these have changed; others came. -/
structure Quiet (priv : Nat → Prop) (w w' : World) : Prop where
  size : w.heap.size ≤ w'.heap.size
  kept : ∀ (B : Nat) (o : Obj), w.heap[B]? = some o → ¬ priv B → w'.heap[B]? = some o
  tape : w'.tape = w.tape
  os : w'.os = w.os
  output : w'.output = w.output
theorem Quiet.refl (priv : Nat → Prop) (w : World) : Quiet priv w w := ⟨Nat.le_refl _, fun _ _ h _ => h, rfl, rfl, rfl⟩
theorem Quiet.trans {priv : Nat → Prop} {w w1 w2 : World} (h : Quiet priv w w1) (g : Quiet priv w1 w2) : Quiet priv w w2 :=
  ⟨Nat.le_trans h.size g.size, fun B o hB hp => g.kept B o (h.kept B o hB hp) hp, g.tape.trans h.tape, g.os.trans h.os, g.output.trans h.output⟩
theorem Quiet.put {w : World} {l : Nat} (o : Obj) : Quiet (fun B => B = l) w (w.putObj l o) :=
  ⟨by simp, fun B o' hB hn => by rw [World.putObj_heap_other hn]; exact hB, rfl, rfl, rfl⟩
theorem Quiet.alloc {priv : Nat → Prop} {w : World} (o : Obj) : Quiet priv w (w.alloc o) :=
  ⟨by simp, fun B o' hB _ => by have := heap_lt hB; simp only [World.alloc]; rw [Array.getElem?_push]; rw [if_neg (by omega)]; exact hB, rfl, rfl, rfl⟩

theorem ORel.one {ρ : Map} {w w' : World} {b : Nat} {o : AObj} (h : ∀ (p : Place) (O : Obj), o.live = true → ρ b = some p → w.heap[p.blk]? = some O → w'.heap[p.blk]? = some O) (ho : ORel ρ w b o) : ORel ρ w' b o := by
  cases o with
  | cells c el own mk =>
    obtain ⟨p, C, e', fr, hp, hh, hc⟩ := ho
    exact ⟨p, C, e', fr, hp, h p _ rfl hp hh, hc⟩
  | map es =>
    obtain ⟨p, m, k, hp, h0, h1, hh, hk⟩ := ho
    exact ⟨p, m, k, hp, h0, h1, h p _ rfl hp hh, hk⟩
  | iter s pos =>
    obtain ⟨p, hp, h0, h1, hh⟩ := ho
    exact ⟨p, hp, h0, h1, h p _ rfl hp hh⟩
  | dead => exact trivial
/-- What is hidden may change. -/
theorem Good.quiet {G : Nat} {ρ ρ' : Map} {H H' : Heap} {w w1 w2 : World} {priv : Nat → Prop} (hg : Good G ρ H w ρ' H' w1) (hq : Quiet priv w1 w2) (hp : ∀ B, priv B → Hidden ρ' H' B ∧ (w.heap.size ≤ B ∨ OwnsBlk ρ H B)) : Good G ρ H w ρ' H' w2 where
  sim := {
    obj := fun b o hb => (hg.sim.obj b o hb).one fun p O hl hpp hO => hq.kept _ _ hO fun hpr => (hp _ hpr).1 b o p hb hl hpp rfl
    apart := hg.sim.apart
    glob := hg.sim.glob }
  ext := hg.ext
  out := hg.out
  next := hg.next
  dom := hg.dom
  ro := hg.ro
  keeps := {
    size := Nat.le_trans hg.keeps.size hq.size
    kept := fun B o hB hn => hq.kept B o (hg.keeps.kept B o hB hn) fun hpr => by
      rcases (hp B hpr).2 with h | h
      · have := heap_lt hB; omega
      · exact hn h
    owns := hg.keeps.owns
    tape := hq.tape.trans hg.keeps.tape
    os := hq.os.trans hg.keeps.os
    output := hq.output.trans hg.keeps.output }

/-! ## the marks -/
def MarkOk (ρ : Map) (H : Heap) (w : World) (lo : Nat) (d : Deferred) : Prop := ∃ r, d = { target := .collected r, args := #[] } ∧ lo ≤ r ∧ w.heap[r]? = some (.deferred (some [])) ∧ Hidden ρ H r
def MarksOk (ρ : Map) (H : Heap) (w : World) (lo : Nat) : List Deferred → Prop
  | [] => True
  | d :: ds => MarkOk ρ H w lo d ∧ (∀ d' ∈ ds, d'.target ≠ d.target) ∧ MarksOk ρ H w lo ds
theorem MarksOk.mem {ρ : Map} {H : Heap} {w : World} {lo : Nat} : ∀ {ms : List Deferred}, MarksOk ρ H w lo ms → ∀ d ∈ ms, MarkOk ρ H w lo d
  | [], _, d, h => by simp at h
  | m :: ms, ⟨h1, _, h3⟩, d, h => by
    rcases List.mem_cons.1 h with rfl | h
    · exact h1
    · exact h3.mem d h
theorem MarksOk.good {G : Nat} {ρ ρ' : Map} {H H' : Heap} {w w' : World} {lo : Nat} (hs : Sim G ρ H w) (hg : Good G ρ H w ρ' H' w') : ∀ {ms : List Deferred}, MarksOk ρ H w lo ms → MarksOk ρ' H' w' lo ms
  | [], _ => trivial
  | m :: ms, ⟨⟨r, e, hl, hr, hh⟩, h2, h3⟩ => ⟨⟨r, e, hl, hg.kept_hidden hr hh, hh.good hs hg (heap_lt hr)⟩, h2, h3.good hs hg⟩
theorem MarksOk.low {ρ : Map} {H : Heap} {w : World} {lo lo' : Nat} (hl : lo' ≤ lo) : ∀ {ms : List Deferred}, MarksOk ρ H w lo ms → MarksOk ρ H w lo' ms
  | [], _ => trivial
  | m :: ms, ⟨⟨r, e, h1, hr, hh⟩, h2, h3⟩ => ⟨⟨r, e, by omega, hr, hh⟩, h2, h3.low hl⟩
theorem MarksOk.app {ρ : Map} {H : Heap} {w : World} {lo mid : Nat} (hm : lo ≤ mid) : ∀ {ms ns : List Deferred}, MarksOk ρ H w mid ms → MarksOk ρ H w lo ns → (∀ d ∈ ns, ∀ r, d.target = .collected r → r < mid) → MarksOk ρ H w lo (ms ++ ns)
  | [], ns, _, h, _ => h
  | m :: ms, ns, ⟨⟨r, e, h1, hr, hh⟩, h2, h3⟩, h, hn => by
    refine ⟨⟨r, e, by omega, hr, hh⟩, ?_, h3.app hm h hn⟩
    intro d' hd'
    rcases List.mem_append.1 hd' with hd | hd
    · exact h2 d' hd
    · intro et
      have := hn d' hd r (by rw [et, e])
      omega
/-- The deferred calls behind a step: those that were, and marks on them. -/
def Dfr (ρ : Map) (H : Heap) (w : World) (lo : Nat) (b : Bool) (d d0 : List Deferred) : Prop := ∃ ms, d = ms ++ d0 ∧ MarksOk ρ H w lo ms ∧ (b = true → ms = [])
theorem Dfr.refl (ρ : Map) (H : Heap) (w : World) (lo : Nat) (b : Bool) (d : List Deferred) : Dfr ρ H w lo b d d := ⟨[], rfl, trivial, fun _ => rfl⟩
theorem Dfr.of_eq {ρ : Map} {H : Heap} {w : World} {lo : Nat} {b : Bool} {d d0 : List Deferred} (h : d = d0) : Dfr ρ H w lo b d d0 := h ▸ Dfr.refl _ _ _ _ _ _
theorem Dfr.weak {ρ : Map} {H : Heap} {w : World} {lo : Nat} {b b' : Bool} {d d0 : List Deferred} (h : Dfr ρ H w lo b d d0) (hb : b' = true → b = true) : Dfr ρ H w lo b' d d0 := by
  obtain ⟨ms, e, hm, hb0⟩ := h
  exact ⟨ms, e, hm, fun h => hb0 (hb h)⟩
theorem Dfr.trans {G : Nat} {ρ1 ρ2 : Map} {H1 H2 : Heap} {w1 w2 : World} {lo : Nat} {b : Bool} {d2 d1 d0 : List Deferred} (h : Dfr ρ1 H1 w1 lo b d1 d0) (hs : Sim G ρ1 H1 w1) (hg : Good G ρ1 H1 w1 ρ2 H2 w2) (hlo : lo ≤ w1.heap.size) (g : Dfr ρ2 H2 w2 w1.heap.size b d2 d1) : Dfr ρ2 H2 w2 lo b d2 d0 := by
  obtain ⟨ms, rfl, hm, hb⟩ := h
  obtain ⟨ns, rfl, hn, hb'⟩ := g
  refine ⟨ns ++ ms, by simp, hn.app hlo (hm.good hs hg) ?_, fun h => by rw [hb h, hb' h]; rfl⟩
  intro d hd r e
  obtain ⟨r', rfl, _, hr, _⟩ := hm.mem d hd
  cases e
  exact heap_lt hr
end Go.Abs

/- A range over a function: what the abstract machine says of its rounds, the model does. -/
namespace Go.Abs
set_option linter.unusedVariables false
set_option linter.unusedSimpArgs false

/-- A function, called with a round's yield, hands these over one by one; of what was there it turns these blocks alone. -/
def SeqSays (P : Program) (gf : FuncId) (lb : Array Value) (xs : List Value) (priv : Nat → Prop) (w : World) : Prop :=
  ∀ (n l : Nat) (J : Nat → World → Prop) (Jx : World → Prop) (W : World), Quiet (fun _ => False) w W →
    (∀ i W1 W2, J i W1 → Quiet priv W1 W2 → J i W2) → (∀ W1 W2, Jx W1 → Quiet priv W1 W2 → Jx W2) →
    (∀ i x W1, xs[i]? = some x → J i W1 → ∀ m, YieldAt Fence.wide m P l #[x] W1 fun e W' =>
      (∀ B o, priv B → W1.heap[B]? = some o → W'.heap[B]? = some o) ∧
      ((e = .returned (.bool true) ∧ J (i + 1) W') ∨ (e = .returned (.bool false) ∧ Jx W'))) →
    J 0 W → CallsIn Fence.wide n P gf (#[.func (.yield l) #[] #[]] ++ lb) W fun e W' => (∃ v, e = .returned v) ∧ (J xs.length W' ∨ Jx W')

/-- Sequences, asked for. -/
def SeqOk (P : Program) (call : CallFn) : Prop := ∀ (gf : FuncId) (lb : List AV) (H : Heap) (xs : List AV) (H1 : Heap), call (P.funcs.size + gf) (.ask :: lb) H = some (.tuple xs, H1) →
  ∀ (ρ : Map) (w : World) (us : Array Value), Sim P.globals.size ρ H w → Wf H → VRels ρ lb us.toList →
    ∃ (xv : List Value) (priv : Nat → Prop) (fn : Func), VRels ρ xs xv ∧ SeqSays P gf us xv priv w ∧ Good P.globals.size ρ H w ρ H1 w ∧ (∀ B, priv B → Hidden ρ H1 B ∧ OwnsBlk ρ H B) ∧
      P.funcs[gf]? = some fn ∧ (fn.name == "runtime.NumGoroutine") = false ∧ fn.body.isNone = false

def exitOf : AX → Exit
  | .normal => .normal
  | .exit id => .exit id
  | .ret => .ret

abbrev Ok (P : Program) (ρ : Map) (H : Heap) (w : World) (a : Act) (T' : List AV) (H' : Heap) (b : Bool) (R : Act → World → Prop) : Prop :=
  ∀ ρ' a' w', Good P.globals.size ρ H w ρ' H' w' → Frel ρ' T' a' → Dfr ρ' H' w' w.heap.size b a'.defers a.defers → R a' w'

theorem Ok.after {P : Program} {ρ ρ1 : Map} {H H1 H' : Heap} {w w1 : World} {a a1 : Act} {T' : List AV} {b b1 b2 : Bool} {R : Act → World → Prop} (h : Ok P ρ H w a T' H' b R) (hg : Good P.globals.size ρ H w ρ1 H1 w1) (hd : Dfr ρ1 H1 w1 w.heap.size b1 a1.defers a.defers) (h1 : b = true → b1 = true) (h2 : b = true → b2 = true) : Ok P ρ1 H1 w1 a1 T' H' b2 R :=
  fun ρ' a' w' hg' hf' hd' => h ρ' a' w' (hg.trans hg') hf' ((hd.weak h1).trans hg.sim hg' hg.keeps.size (hd'.weak h2))

/-- What a piece of code comes to, the model does. -/
def SoundAt (P : Program) (call : CallFn) (n : Nat) (c : Code) : Prop := ∀ {ro : Option Nat} {nn : Nat} {T T' : List AV} {H H' : Heap} {e : AX} {ρ : Map} {a : Act} {w : World} {Q : Exit → Act → World → Prop},
  (ro = none ∨ noRange c = true) → runCode P call n c T H = some (e, T', H') → Sim P.globals.size ρ H w → Frel ρ T a → Wf H → (∀ b, H.next ≤ b → b < H'.next → ρ b = none) → Ok P ρ H w a T' H' (noRange c) (Q (exitOf e)) → c.wpIn (Fr ro) nn P Q a w

def codeOf : AX → Code
  | .normal => .skip
  | .exit id => .exit id
  | .ret => .ret

theorem Hidden.of_priv {G : Nat} {ρ : Map} {H : Heap} {w : World} {B : Nat} (hs : Sim G ρ H w) (h : OwnsBlk ρ H B) : B < w.heap.size := by
  obtain ⟨b, o, p, hb, ho, hp, rfl⟩ := h
  obtain ⟨p0, O, hp0, hO⟩ := hs.place hb (own_live ho)
  rw [hp] at hp0
  cases hp0
  exact heap_lt hO

section
variable {P : Program} {call : CallFn} {n nn : Nat}
theorem rangeFunc_sound (hseq : SeqOk P call) (hmono : CallMono call) {g : Operand} {ps : Array Tmp} {x y : Code} (ihx : SoundAt P call n x) (ihy : SoundAt P call n y) {T T' : List AV} {H H' : Heap} {e : AX} {ρ : Map} {a : Act} {w : World} {Q : Exit → Act → World → Prop}
    (h : runCode P call n (.rangeFunc g ps x y) T H = some (e, T', H')) (hs : Sim P.globals.size ρ H w) (hf : Frel ρ T a) (hwf : Wf H) (hfree : ∀ b, H.next ≤ b → b < H'.next → ρ b = none) (hQ : Ok P ρ H w a T' H' false (Q (exitOf e))) :
    (Code.rangeFunc g ps x y).wpIn (Fr none) nn P Q a w := by
  simp only [runCode] at h
  split at h
  case isFalse => cases h
  rename_i hnr
  split at h
  case h_2 => cases h
  rename_i p gf lb hps hgv
  split at h
  case h_2 => cases h
  rename_i xs H1 hq
  simp only [Bool.and_eq_true] at hnr
  obtain ⟨hnx, hny⟩ := hnr
  obtain ⟨us0, us, hgv, hus0, hus⟩ := ev_rel hf hs.glob hgv
  have hus0 : us0 = #[] := by
    have : us0.toList = [] := hus0
    exact Array.toList_inj.1 (by simpa using this)
  subst hus0
  obtain ⟨xv, priv, fn0, hxv, hsays, hG1, hpriv, hfn0, hname, hbody⟩ := hseq gf lb H xs H1 hq ρ w us hs hwf hus
  have hplt : ∀ B, priv B → B < w.heap.size := fun B hB => Hidden.of_priv hs (hpriv B hB).2
  have hps' : ps = #[p] := Array.toList_inj.1 (by simpa using hps)
  subst hps'
  have eg : ∀ args w', (callFunc gf args).run P w' = .ok (.enter gf args) w' := by
    intro args w'
    have h1 : fn0.name ≠ "runtime.NumGoroutine" := by simpa using hname
    have h2 : fn0.body ≠ none := fun e => by rw [e] at hbody; cases hbody
    simp [callFunc, hfn0, h1, h2]
  refine wpIn_rangeFunc ?_
  intro fn hfn
  obtain ⟨rec, hrec⟩ : ∃ rec : LoopState → Option Code → Loop, rec = fun st pe => { state := st, pending := pe, fn, tmps := a.tmps, params := #[p], assign := x, body := y, defers := w.heap.size } := ⟨_, rfl⟩
  obtain ⟨W1, hW1⟩ : ∃ W1, (w.alloc (.deferred (some []))).alloc (.loop (rec .ready none)) = W1 := ⟨_, rfl⟩
  obtain ⟨L, hL⟩ : ∃ L, w.heap.size + 1 = L := ⟨_, rfl⟩
  obtain ⟨D, hD⟩ : ∃ D, w.heap.size = D := ⟨_, rfl⟩
  have hL1 : W1.heap[L]? = some (.loop (rec .ready none)) := by
    rw [← hW1, ← hL]; have := World.alloc_heap_new (w.alloc (.deferred (some []))) (.loop (rec .ready none)); rwa [World.size_alloc] at this
  have hK1 : W1.heap[D]? = some (.deferred (some [])) := by
    rw [← hW1, ← hD]; exact (Quiet.alloc (priv := fun _ => False) _).kept _ _ (World.alloc_heap_new w _) id
  have hQ1 : Quiet (fun _ => False) w W1 := by rw [← hW1]; exact (Quiet.alloc _).trans (Quiet.alloc _)
  refine ⟨L, [{ target := .collected D, args := #[] }], W1, { target := .fn (.func gf) us, args := #[.func (.yield L) #[] #[]] }, W1, gf,
    #[.func (.yield L) #[] #[]] ++ us, W1, ?_, ?_, fun _ _ => trivial, ?_, fun e => by simp [Fr, Fence.wide] at e, ?_⟩
  · rw [← hW1, hrec, ← hL, ← hD]; exact run_enterLoop_outer _ _ _ _ _
  · simp only [rangeCall, resolve, hgv]
    simp [go_sem]
  · simp [invoke, go_sem, eg]
  have hLw : w.heap.size ≤ L := by omega
  have hDw : w.heap.size ≤ D := by omega
  have hLD : L ≠ D := by omega
  have hpL : ∀ B, priv B → B ≠ L := fun B hB => by have := hplt B hB; omega
  have hpD : ∀ B, priv B → B ≠ D := fun B hB => by have := hplt B hB; omega
  generalize hF : (fun (z : AV) (H : Heap) => thenRun (runCode P call n x) (runCode P call n y) (T.set p z) H) = F at h
  let J : Nat → World → Prop := fun i W => ∃ ρ' Hi, seqRun F T (xs.drop i) Hi = some (e, T', H') ∧ Good P.globals.size ρ H w ρ' Hi W ∧ W.heap[L]? = some (.loop (rec .ready none)) ∧ W.heap[D]? = some (.deferred (some [])) ∧ Hidden ρ' Hi L ∧ Hidden ρ' Hi D ∧ ∀ B, priv B → Hidden ρ' Hi B
  let Jx : World → Prop := fun W => ∃ ρ', Good P.globals.size ρ H w ρ' H' W ∧ e ≠ .normal ∧ T' = T ∧ W.heap[L]? = some (.loop (rec .done (some (codeOf e)))) ∧ W.heap[D]? = some (.deferred (some [])) ∧ Hidden ρ' H' L ∧ Hidden ρ' H' D ∧ ∀ B, priv B → Hidden ρ' H' B
  have hfm : ∀ z H e T' H', F z H = some (e, T', H') → H.next ≤ H'.next := by
    intro z H e T' H' hz
    rw [← hF] at hz
    exact thenRun_mono (fun T H e T' H' h => runCode_mono hmono x T T' H H' e h) (fun T H e T' H' h => runCode_mono hmono y T T' H H' e h) _ _ _ _ _ hz
  -- a turn of the record
  have turnL : ∀ {ρ' : Map} {Hi : Heap} {W : World} (o : Obj), Good P.globals.size ρ H w ρ' Hi W → Hidden ρ' Hi L → Good P.globals.size ρ H w ρ' Hi (W.putObj L o) :=
    fun o hg hh => hg.quiet (Quiet.put o) fun B hB => by subst hB; exact ⟨hh, .inl hLw⟩
  refine (hsays _ L J Jx W1 hQ1 ?_ ?_ ?_ ?_).mono ?_
  · rintro i W W2 ⟨ρ', Hi, h1, h2, h3, h4, h5, h6, h7⟩ hqq
    exact ⟨ρ', Hi, h1, h2.quiet hqq fun B hB => ⟨h7 B hB, .inr (hpriv B hB).2⟩, hqq.kept _ _ h3 fun hp => hpL _ hp rfl, hqq.kept _ _ h4 fun hp => hpD _ hp rfl, h5, h6, h7⟩
  · rintro W W2 ⟨ρ', h2, h8, h9, h3, h4, h5, h6, h7⟩ hqq
    exact ⟨ρ', h2.quiet hqq fun B hB => ⟨h7 B hB, .inr (hpriv B hB).2⟩, h8, h9, hqq.kept _ _ h3 fun hp => hpL _ hp rfl, hqq.kept _ _ h4 fun hp => hpD _ hp rfl, h5, h6, h7⟩
  · -- one round
    rintro i z W hz ⟨ρ', Hi, h1, h2, h3, h4, h5, h6, h7⟩ m
    have hil : i < xs.length := by rw [← hxv.length]; exact (List.getElem?_eq_some_iff.1 hz).1
    obtain ⟨za, hza⟩ : ∃ za, xs[i]? = some za := ⟨xs[i], by simp [hil]⟩
    obtain ⟨z', hz', hzr⟩ := hxv.get i za hza
    rw [hz] at hz'
    cases hz'
    have hdrop : xs.drop i = za :: xs.drop (i + 1) := by
      rw [List.drop_eq_getElem_cons hil]
      have : xs[i] = za := by simpa [hil] using hza
      rw [this]
    rw [hdrop] at h1
    simp only [seqRun] at h1
    have hy := run_yield (P := P) (args := #[z]) h3 (by rw [hrec]; simp)
    rw [hrec] at hy
    have hwfi := h2.wf hwf
    have htm : Frel ρ' (T.set p za) { tmps := a.tmps.setIfInBounds p z, defers := [] } := by
      simp only [Frel, Array.toList_setIfInBounds]
      exact (VRels.mono h2.ext _ _ hf).set p (VRel.mono h2.ext _ _ hzr)
    have hltL : L < W.heap.size := heap_lt h3
    have hltD : D < W.heap.size := heap_lt h4
    -- the round's run
    have hrun : ∃ e2 T2 H2, F za Hi = some (e2, T2, H2) ∧ H2.next ≤ H'.next ∧ ((e2 = .normal ∧ seqRun F T (xs.drop (i + 1)) H2 = some (e, T', H')) ∨ (e2 ≠ .normal ∧ e = e2 ∧ T' = T ∧ H' = H2)) := by
      split at h1
      · rename_i T2 H2 hr
        exact ⟨_, _, _, hr, seqRun_mono hfm _ _ _ _ _ h1, .inl ⟨rfl, h1⟩⟩
      · rename_i e2 T2 H2 hne hr
        simp only [Option.some.injEq, Prod.mk.injEq] at h1
        obtain ⟨rfl, rfl, rfl⟩ := h1
        exact ⟨_, _, _, hr, Nat.le_refl _, .inr ⟨fun he => by subst he; first | exact hne rfl | exact hne _ rfl, rfl, rfl, rfl⟩⟩
      · cases h1
    obtain ⟨e2, T2, H2, hr2, hnx2, hcase⟩ := hrun
    rw [← hF] at hr2
    simp only [thenRun] at hr2
    split at hr2
    case h_2 => cases hr2
    rename_i Tm Hm hrx
    have hmx := runCode_mono hmono x _ _ _ _ _ hrx
    have hmy := runCode_mono hmono y _ _ _ _ _ hr2
    have hfr1 : ∀ b, Hi.next ≤ b → b < Hm.next → ρ' b = none := fun b hb hb' => by rw [h2.out b (.inr hb)]; exact hfree b (by have := h2.next; omega) (by omega)
    refine ⟨fn, _, x, y, hy, roundIn_of_wpIn (F := Fence.wide) trivial ?_⟩
    refine ihx (ro := some L) (.inr hnx) hrx h2.sim (by simpa [Frel] using htm) hwfi hfr1 ?_
    intro ρ1 a1 Wm hg1 hf1 _
    have hL2 := hg1.kept_hidden h3 h5
    have hD2 := hg1.kept_hidden h4 h6
    have hhL1 := h5.good h2.sim hg1 hltL
    have hhD1 := h6.good h2.sim hg1 hltD
    have hgm := turnL (.loop { rec .ready none with state := .busy }) (h2.trans hg1) hhL1
    refine ⟨_, run_beginRound hL2 (by rw [hrec]), ?_⟩
    have hfr2 : ∀ b, Hm.next ≤ b → b < H2.next → ρ1 b = none := fun b hb hb' => by rw [(h2.trans hg1).out b (.inr hb)]; exact hfree b (by have := (h2.trans hg1).next; omega) (by omega)
    refine ihy (ro := some L) (.inr hny) hr2 hgm.sim hf1 (hgm.wf hwf) hfr2 ?_
    intro ρ2 a2 W3 hg2 hf2 _
    have hszm : Wm.heap.size = (Wm.putObj L (.loop { rec .ready none with state := .busy })).heap.size := by simp
    have hL3 := hg2.kept_hidden (World.putObj_heap_same (heap_lt hL2)) hhL1
    have hD3 := hg2.kept_hidden ((World.putObj_heap_other (Ne.symm hLD)).trans hD2) hhD1
    have hhL2 := hhL1.good hgm.sim hg2 (by rw [← hszm]; exact heap_lt hL2)
    have hhD2 := hhD1.good hgm.sim hg2 (by rw [← hszm]; exact heap_lt hD2)
    have hg3 := hgm.trans hg2
    have hpr : ∀ B, priv B → Hidden ρ2 H2 B := fun B hB => by
      have hlt := hplt B hB
      have k1 := (h7 B hB).good h2.sim hg1 (by have := h2.keeps.size; omega)
      exact k1.good hgm.sim hg2 (by rw [← hszm]; have := (h2.trans hg1).keeps.size; omega)
    have hpk : ∀ (o' : Obj) B o, priv B → W.heap[B]? = some o → (W3.putObj L o').heap[B]? = some o := by
      intro o' B o hB ho
      have k1 := (h7 B hB).good h2.sim hg1 (heap_lt ho)
      have k2 := hg1.kept_hidden ho (h7 B hB)
      have k3 := hg2.kept_hidden ((World.putObj_heap_other (hpL B hB)).trans k2) k1
      exact (World.putObj_heap_other (hpL B hB)).trans k3
    have fin : ∀ jump : Option Code, (Instr.endRound L jump).run P W3 = .ok (.bool jump.isNone) (W3.putObj L (.loop (rec (if jump.isNone then .ready else .done) jump))) := fun jump => by
      have := run_endRound (P := P) jump hL3
      rw [hrec] at this ⊢
      exact this
    have atL : ∀ o', (W3.putObj L o').heap[L]? = some o' := fun o' => World.putObj_heap_same (heap_lt hL3)
    have atD : ∀ o', (W3.putObj L o').heap[D]? = some (.deferred (some [])) := fun o' => (World.putObj_heap_other (Ne.symm hLD)).trans hD3
    rcases hcase with ⟨rfl, hrest⟩ | ⟨hne, rfl, rfl, rfl⟩
    · exact ⟨_, _, fin none, hpk _, .inl ⟨rfl, ρ2, H2, hrest, turnL _ hg3 hhL2, atL _, atD _, hhL2, hhD2, hpr⟩⟩
    · cases e with
      | normal => exact absurd rfl hne
      | exit id => exact ⟨_, _, fin (some (.exit id)), hpk _, .inr ⟨rfl, ρ2, turnL _ hg3 hhL2, hne, rfl, atL _, atD _, hhL2, hhD2, hpr⟩⟩
      | ret => exact ⟨_, _, fin (some .ret), hpk _, .inr ⟨rfl, ρ2, turnL _ hg3 hhL2, hne, rfl, atL _, atD _, hhL2, hhD2, hpr⟩⟩
  · exact ⟨ρ, H1, h, hG1.quiet hQ1 fun B hB => hB.elim, hL1, hK1, Hidden.fresh hG1.sim hLw, Hidden.fresh hG1.sim hDw, fun B hB => (hpriv B hB).1⟩
  · -- behind the iterator
    have last : ∀ {ρ' : Map} {W : World} (o : Obj), Good P.globals.size ρ H w ρ' H' W → T' = T → W.heap[D]? = some (.deferred (some [])) → Hidden ρ' H' L → Hidden ρ' H' D → Q (exitOf e) { a with defers := [{ target := .collected D, args := #[] }] ++ a.defers } (W.putObj L o) := by
      intro ρ' W o hg hT hD' hhL hhD
      have hg' := turnL o hg hhL
      refine hQ ρ' _ _ hg' (by rw [hT]; exact VRels.mono hg.ext _ _ hf) ⟨[{ target := .collected D, args := #[] }], rfl, ⟨⟨D, rfl, hDw, (World.putObj_heap_other (Ne.symm hLD)).trans hD', hhD⟩, by simp, trivial⟩, fun hb => by cases hb⟩
    rintro e' W ⟨⟨v, rfl⟩, (⟨ρ', Hi, h1, h2, h3, h4, h5, h6, h7⟩ | ⟨ρ', h2, h8, h9, h3, h4, h5, h6, h7⟩)⟩
    · have hd : xs.drop xv.length = [] := by rw [hxv.length]; simp
      rw [hd] at h1
      simp only [seqRun, Option.some.injEq, Prod.mk.injEq] at h1
      obtain ⟨rfl, rfl, rfl⟩ := h1
      exact ⟨none, _, by have := run_endLoop (P := P) h3 (by rw [hrec]; simp); rw [hrec] at this; exact this, last _ h2 rfl h4 h5 h6⟩
    · refine ⟨some (codeOf e), _, by have := run_endLoop (P := P) h3 (by rw [hrec]; simp); rw [hrec] at this; exact this, ?_⟩
      have hl := last (.loop { rec .done (some (codeOf e)) with state := .exhausted }) h2 h9 h4 h5 h6
      rw [hrec] at hl
      cases e with
      | normal => exact absurd rfl h8
      | exit id => exact wpIn_exit hl
      | ret => exact wpIn_ret hl
end
end Go.Abs

/- Bodies and calls: what the abstract machine says of a call, the model does. -/
namespace Go.Abs
set_option linter.unusedVariables false
set_option linter.unusedSimpArgs false

section
variable {P : Program}

theorem stepR_scope {b : Frame} {a : Act} {k : List Item} {cs : List Frame} {w : World} {c : Code} :
    step P (lone (b.atR a (.code (.scope c) :: k)) cs w) = .next (lone (b.atR a (.code c :: .inScope c :: k)) cs w) :=
  step_lone_go (by simp [stepG, stepG.exec, Frame.atR])

theorem stepR_inScope {b : Frame} {a : Act} {k : List Item} {cs : List Frame} {w : World} {c : Code} :
    step P (lone (b.atR a (.inScope c :: k)) cs w) = .next (lone (b.atR a k) cs w) :=
  step_lone_go (by simp [stepG, stepG.exec, Frame.atR])

/-- A scope that no goto leaves. -/
theorem wpIn_scope_plain {F : Fence} {n : Nat} {Q : Exit → Act → World → Prop} {a : Act} {w : World} {c : Code} (h : c.wpIn F n P (fun e a w => Q e a w ∧ ∀ l, e ≠ .goto l) a w) : (Code.scope c).wpIn F n P Q a w := by
  intro b k cs hro hb hr
  obtain ⟨e, a₁, w₁, ⟨hq, hng⟩, harr⟩ := h b (.inScope c :: k) cs hro hb hr
  refine ⟨e, a₁, w₁, hq, ArrivesIn.of_steps (.one (fenced_calm hb hr rfl) stepR_scope) ?_⟩
  cases e with
  | normal => exact StepsIn.trans harr (.one (fenced_calm hb hr rfl) stepR_inScope)
  | exit id => exact ⟨fun k' hk => harr.1 k' (by simpa [exitTo] using hk), fun hr hk => harr.2 hr (by simpa [exitTo] using hk)⟩
  | goto l => exact absurd rfl (hng l)
  | ret => exact harr
  | panic ch => exact harr
  | outgrown => exact harr

theorem code_sound {call : CallFn} (hcall : CallOk P call) (hseq : SeqOk P call) (hmono : CallMono call) (hm : P.follows .mixedOrders = true) {n : Nat} : ∀ (c : Code), SoundAt P call n c := by
  intro c
  induction c with
  | skip =>
    intro ro nn T T' H H' e ρ a w Q hrn h hs hf hwf hfree hQ
    simp only [runCode, Option.some.injEq, Prod.mk.injEq] at h
    obtain ⟨rfl, rfl, rfl⟩ := h
    exact wpIn_skip (hQ ρ a w (Good.refl hs) hf (Dfr.refl _ _ _ _ _ _))
  | label l =>
    intro ro nn T T' H H' e ρ a w Q hrn h hs hf hwf hfree hQ
    simp only [runCode, Option.some.injEq, Prod.mk.injEq] at h
    obtain ⟨rfl, rfl, rfl⟩ := h
    exact wpIn_label (hQ ρ a w (Good.refl hs) hf (Dfr.refl _ _ _ _ _ _))
  | exit id =>
    intro ro nn T T' H H' e ρ a w Q hrn h hs hf hwf hfree hQ
    simp only [runCode, Option.some.injEq, Prod.mk.injEq] at h
    obtain ⟨rfl, rfl, rfl⟩ := h
    exact wpIn_exit (hQ ρ a w (Good.refl hs) hf (Dfr.refl _ _ _ _ _ _))
  | ret =>
    intro ro nn T T' H H' e ρ a w Q hrn h hs hf hwf hfree hQ
    simp only [runCode, Option.some.injEq, Prod.mk.injEq] at h
    obtain ⟨rfl, rfl, rfl⟩ := h
    exact wpIn_ret (hQ ρ a w (Good.refl hs) hf (Dfr.refl _ _ _ _ _ _))
  | region id ops draw =>
    intro ro nn T T' H H' e ρ a w Q hrn h hs hf hwf hfree hQ
    simp only [runCode] at h
    split at h
    · rename_i T1 H1 h1
      simp only [Option.some.injEq, Prod.mk.injEq] at h
      obtain ⟨rfl, rfl, rfl⟩ := h
      exact region_sound hcall hmono hm h1 hs hf hwf hfree fun ρ' a' w' hg hf' hd => hQ ρ' a' w' hg hf' (Dfr.of_eq hd)
    · cases h
  | seq x y ihx ihy =>
    intro ro nn T T' H H' e ρ a w Q hrn h hs hf hwf hfree hQ
    simp only [runCode] at h
    have hnx : noRange (.seq x y) = true → noRange x = true := fun h => by simp only [noRange, Bool.and_eq_true] at h; exact h.1
    have hny : noRange (.seq x y) = true → noRange y = true := fun h => by simp only [noRange, Bool.and_eq_true] at h; exact h.2
    refine wpIn_seq ?_
    split at h
    · rename_i T1 H1 h1
      have m1 := runCode_mono hmono x _ _ _ _ _ h1
      have m2 := runCode_mono hmono y _ _ _ _ _ h
      refine ihx (hrn.imp_right hnx) h1 hs hf hwf (fun b hb hb' => hfree b hb (by omega)) ?_
      intro ρ1 a1 w1 hg hf1 hd1
      exact ihy (hrn.imp_right hny) h hg.sim hf1 (hg.wf hwf) (fun b hb hb' => by rw [hg.out b (.inr hb)]; exact hfree b (by omega) hb') (hQ.after hg hd1 hnx hny)
    · rename_i hne
      refine ihx (hrn.imp_right hnx) h hs hf hwf hfree ?_
      intro ρ1 a1 w1 hg hf1 hd1
      have := hQ ρ1 a1 w1 hg hf1 (hd1.weak hnx)
      cases e with
      | normal => exact absurd h (hne _ _)
      | exit id => exact this
      | ret => exact this
  | cond c x y ihx ihy =>
    intro ro nn T T' H H' e ρ a w Q hrn h hs hf hwf hfree hQ
    simp only [runCode] at h
    have hnx : noRange (.cond c x y) = true → noRange x = true := fun h => by simp only [noRange, Bool.and_eq_true] at h; exact h.1
    have hny : noRange (.cond c x y) = true → noRange y = true := fun h => by simp only [noRange, Bool.and_eq_true] at h; exact h.2
    split at h
    · rename_i hc
      have := ev_rel hf hs.glob hc
      exact wpIn_cond_true this (ihx (hrn.imp_right hnx) h hs hf hwf hfree fun ρ' a' w' hg hf' hd => hQ ρ' a' w' hg hf' (hd.weak hnx))
    · rename_i hc
      have := ev_rel hf hs.glob hc
      exact wpIn_cond_false this (ihy (hrn.imp_right hny) h hs hf hwf hfree fun ρ' a' w' hg hf' hd => hQ ρ' a' w' hg hf' (hd.weak hny))
    · cases h
  | block id body ih =>
    intro ro nn T T' H H' e ρ a w Q hrn h hs hf hwf hfree hQ
    simp only [runCode] at h
    refine wpIn_block ?_
    split at h
    · rename_i id' T1 H1 h1
      split at h
      · rename_i hid
        simp only [Option.some.injEq, Prod.mk.injEq] at h
        obtain ⟨rfl, rfl, rfl⟩ := h
        refine ih hrn h1 hs hf hwf hfree ?_
        intro ρ1 a1 w1 hg hf1 hd1
        simp only [exitOf, Exit.inBlock, hid, if_true]
        exact hQ ρ1 a1 w1 hg hf1 hd1
      · rename_i hid
        simp only [Option.some.injEq, Prod.mk.injEq] at h
        obtain ⟨rfl, rfl, rfl⟩ := h
        refine ih hrn h1 hs hf hwf hfree ?_
        intro ρ1 a1 w1 hg hf1 hd1
        simp only [exitOf, Exit.inBlock, hid, if_false]
        exact hQ ρ1 a1 w1 hg hf1 hd1
    · rename_i hne
      refine ih hrn h hs hf hwf hfree ?_
      intro ρ1 a1 w1 hg hf1 hd1
      have := hQ ρ1 a1 w1 hg hf1 hd1
      cases e with
      | normal => exact this
      | exit id' => exact absurd h (hne _ _ _)
      | ret => exact this
  | loop body ih =>
    intro ro nn T T' H H' e ρ a w Q hrn h hs hf hwf hfree hQ
    simp only [runCode] at h
    have key : ∀ (m : Nat) {T : List AV} {H : Heap} {ρ : Map} {a : Act} {w : World}, runLoop (runCode P call n body) m T H = some (e, T', H') → Sim P.globals.size ρ H w → Frel ρ T a → Wf H → (∀ b, H.next ≤ b → b < H'.next → ρ b = none) →
        Ok P ρ H w a T' H' (noRange (.loop body)) (Q (exitOf e)) → Code.roundsIn (Fr ro) nn P body Q m a w := by
      intro m
      induction m with
      | zero => intro T H ρ a w h; cases h
      | succ m ihm =>
        intro T H ρ a w h hs hf hwf hfree hQ
        simp only [runLoop] at h
        rw [roundsIn_succ]
        split at h
        · rename_i T1 H1 h1
          have m1 := runCode_mono hmono body _ _ _ _ _ h1
          have m2 := runLoop_mono (fun T H e T' H' h => runCode_mono hmono body T T' H H' e h) m _ _ _ _ _ h
          refine ih hrn h1 hs hf hwf (fun b hb hb' => hfree b hb (by omega)) ?_
          intro ρ1 a1 w1 hg hf1 hd1
          exact ihm h hg.sim hf1 (hg.wf hwf) (fun b hb hb' => by rw [hg.out b (.inr hb)]; exact hfree b (by omega) hb') (hQ.after hg hd1 id id)
        · rename_i hne
          refine ih hrn h hs hf hwf hfree ?_
          intro ρ1 a1 w1 hg hf1 hd1
          have := hQ ρ1 a1 w1 hg hf1 hd1
          cases e with
          | normal => exact absurd h (hne _ _)
          | exit id => exact this
          | ret => exact this
    exact wpIn_loop_rounds n (key n h hs hf hwf hfree hQ)
  | scope body ih =>
    intro ro nn T T' H H' e ρ a w Q hrn h hs hf hwf hfree hQ
    simp only [runCode] at h
    refine wpIn_scope_plain (ih hrn h hs hf hwf hfree ?_)
    intro ρ1 a1 w1 hg hf1 hd1
    exact ⟨hQ ρ1 a1 w1 hg hf1 hd1, by intro l; cases e <;> simp [exitOf]⟩
  | rangeFunc f ps x y ihx ihy =>
    intro ro nn T T' H H' e ρ a w Q hrn h hs hf hwf hfree hQ
    rcases hrn with rfl | hrn
    · exact rangeFunc_sound hseq hmono ihx ihy h hs hf hwf hfree hQ
    · cases hrn
  | goto l => intro ro nn T T' H H' e ρ a w Q hrn h; simp [runCode] at h
  | refuse why => intro ro nn T T' H H' e ρ a w Q hrn h; simp [runCode] at h

/-! ## calls -/
theorem results_ok {G : Nat} {ρ : Map} {H : Heap} {w : World} (hs : Sim G ρ H w) {T : List AV} {tmps : Array Value} (hf : VRels ρ T tmps.toList)
    {F : ResultVar → Sem Value} (hF1 : ∀ t, F (.tmp t) = pure (tmps.getD t Go.undef)) (hF2 : ∀ a t, F (.cell a t) = (asAddr (tmps.getD a Go.undef) >>= fun x => loadVar t x)) : ∀ {rs : List ResultVar} {vs : List AV}, resultsA P T H rs = some vs →
    ∃ us : List Value, (rs.mapM (m := Sem) F).run P w = .ok us w ∧ VRels ρ vs us
  | [], vs, h => by
    simp only [resultsA, Option.some.injEq] at h
    subst h
    exact ⟨[], by simp, rfl⟩
  | .tmp t :: rs, vs, h => by
    simp only [resultsA] at h
    cases hr : resultsA P T H rs with
    | none => simp [hr] at h
    | some vs' =>
      simp only [hr, Option.some.injEq] at h
      subst h
      obtain ⟨us, hu, hrel⟩ := results_ok hs hf hF1 hF2 hr
      refine ⟨tmps.getD t Go.undef :: us, ?_, _, us, rfl, getD_rel hf t, hrel⟩
      simp only [List.mapM_cons, hF1, Sem.run_bind, Sem.run_pure, Result.andThen_ok, hu]
  | .cell a t :: rs, vs, h => by
    simp only [resultsA] at h
    have ha := getD_rel hf a
    split at h
    case h_2 => cases h
    rename_i b o g n hb hg hn
    split at h
    case h_2 => cases h
    rename_i x hx
    split at h
    case h_2 => cases h
    rename_i v vs' hv hr
    simp only [Option.some.injEq] at h
    subst h
    rw [hb] at ha
    obtain ⟨p, hp, he⟩ := ha
    obtain ⟨u, hu, hrel1⟩ := var_read (P := P) hs hg hn hx hp hv
    obtain ⟨us, hus, hrel⟩ := results_ok hs hf hF1 hF2 hr
    refine ⟨u :: us, ?_, u, us, rfl, hrel1, hrel⟩
    have hA : asAddr (tmps.getD a Go.undef) = pure ⟨p.blk, p.off + o, none⟩ := by rw [he]; rfl
    simp only [List.mapM_cons, hF2, hA, Sem.run_bind, Sem.run_pure, Result.andThen_ok, hu, hus]

theorem tupled_rel {ρ : Map} {vs : List AV} {us : List Value} (h : VRels ρ vs us) : VRel ρ (tupled vs) (if h : us.toArray.size = 1 then us.toArray[0] else .tuple us.toArray) := by
  cases vs with
  | nil => cases h; exact ⟨#[], rfl, rfl⟩
  | cons v r =>
    obtain ⟨u, l, rfl, hv, hr⟩ := h
    cases r with
    | nil => cases hr; simpa [tupled] using hv
    | cons v2 r2 =>
      obtain ⟨u2, l2, rfl, hv2, hr2⟩ := hr
      have : ¬ (u :: u2 :: l2).toArray.size = 1 := by simp
      rw [dif_neg this]
      exact ⟨_, rfl, u, _, rfl, hv, u2, _, rfl, hv2, hr2⟩

theorem VRels.replicate (ρ : Map) : ∀ n : Nat, VRels ρ (List.replicate n .undef) (List.replicate n Go.undef)
  | 0 => rfl
  | n + 1 => ⟨Go.undef, _, rfl, VRel.undef ρ, VRels.replicate ρ n⟩

/-- Behind the marks: the results. -/
theorem leaves_marks {ρ ρ' : Map} {H H' : Heap} {w : World} {n : Nat} {fn : Func} {tmps : Array Value} {R : Ending → World → Prop} {lo : Nat} (hlo : w.heap.size ≤ lo)
    (hfin : ∀ w2, Good P.globals.size ρ H w ρ' H' w2 → ∃ v, (results fn tmps).run P w2 = .ok v w2 ∧ R (.returned v) w2) : ∀ {ms : List Deferred} {w' : World}, MarksOk ρ' H' w' lo ms → Good P.globals.size ρ H w ρ' H' w' → LeavesInM Fence.wide n P fn tmps R ms .returning w'
  | [], w', _, hg => hfin w' hg
  | d :: ds, w', ⟨⟨r, e, hl, hr, hh⟩, h2, h3⟩, hg => by
    subst e
    refine ⟨by simp, .inl ⟨r, w'.putObj r (.deferred none), rfl, run_takeDeferred hr, ?_⟩⟩
    refine leaves_marks hlo hfin ?_ (hg.quiet (Quiet.put _) fun B hB => by subst hB; exact ⟨hh, .inl (by omega)⟩)
    have key : ∀ {ds : List Deferred}, (∀ d' ∈ ds, d'.target ≠ .collected r) → MarksOk ρ' H' w' lo ds → MarksOk ρ' H' (w'.putObj r (.deferred none)) lo ds := by
      intro ds
      induction ds with
      | nil => intro _ _; trivial
      | cons d ds ih =>
        rintro hne ⟨⟨r', e', hl', hr', hh'⟩, k2, k3⟩
        refine ⟨⟨r', e', hl', ?_, hh'⟩, k2, ih (fun d' hd => hne d' (List.mem_cons_of_mem _ hd)) k3⟩
        rw [World.putObj_heap_other]
        · exact hr'
        · intro er
          exact hne d (List.mem_cons_self ..) (by rw [e', er])
    exact key h2 h3

theorem body_sound {call : CallFn} (hcall : CallOk P call) (hseq : SeqOk P call) (hmono : CallMono call) (hm : P.follows .mixedOrders = true) {n : Nat} {f : FuncId} {fn : Func} (hfn : P.funcs[f]? = some fn) {args : List AV} {H H' : Heap} {v : AV}
    (h : runBody P call n fn args H = some (v, H')) {ρ : Map} {w : World} {us : Array Value} (hs : Sim P.globals.size ρ H w) (hwf : Wf H) (hfree : ∀ b, H.next ≤ b → b < H'.next → ρ b = none) (hargs : VRels ρ args us.toList) :
    fn.body.isSome = true ∧ Calls P f us w fun e w' => ∃ u, e = .returned u ∧ ∃ ρ', Good P.globals.size ρ H w ρ' H' w' ∧ VRel ρ' v u := by
  unfold runBody at h
  split at h
  · cases h
  rename_i c hb
  refine ⟨by simp [hb], ?_⟩
  have hlen := hargs.length
  simp at hlen
  have hf0 : Frel ρ (args ++ List.replicate (fn.ntmps - args.length) .undef) { tmps := us ++ Array.replicate (fn.ntmps - us.size) Go.undef, defers := [] } := by
    simp only [Frel, Array.toList_append, Array.toList_replicate]
    rw [hlen]
    exact hargs.append (VRels.replicate ρ _)
  have fin : ∀ {T : List AV} {H1 : Heap} {vs : List AV} {b : Bool}, resultsA P T H1 fn.results.toList = some vs → v = tupled vs → H1 = H' →
      Ok P ρ H w { tmps := us ++ Array.replicate (fn.ntmps - us.size) Go.undef, defers := [] } T H' b fun a' w' => LeavesInM Fence.wide 0 P fn a'.tmps (fun e w' => ∃ u, e = .returned u ∧ ∃ ρ', Good P.globals.size ρ H w ρ' H' w' ∧ VRel ρ' v u) a'.defers .returning w' := by
    intro T H1 vs b hr hv hH ρ1 a1 w1 hg hf1 hd1
    subst hH
    obtain ⟨ms, hms, hmk, _⟩ := hd1
    rw [hms]
    simp only [List.append_nil]
    refine leaves_marks (Nat.le_refl _) ?_ hmk hg
    intro w2 hg2
    have key : ∀ F : ResultVar → Sem Value, (∀ t, F (.tmp t) = pure (a1.tmps.getD t Go.undef)) → (∀ a t, F (.cell a t) = (asAddr (a1.tmps.getD a Go.undef) >>= fun x => loadVar t x)) →
        ∃ u, (do let vs ← fn.results.mapM F; pure (if h : vs.size = 1 then vs[0] else Value.tuple vs) : Sem Value).run P w2 = .ok u w2 ∧ VRel ρ1 v u := by
      intro F h1 h2
      obtain ⟨rs, hrs, hrel⟩ := results_ok (P := P) hg2.sim hf1 h1 h2 hr
      refine ⟨_, ?_, by rw [hv]; exact tupled_rel hrel⟩
      rw [Array.mapM_eq_mapM_toList]
      simp only [Sem.run_bind, Sem.run_map, hrs, Result.andThen_ok]
      rfl
    obtain ⟨u, hu, hr⟩ : ∃ u, (results fn a1.tmps).run P w2 = .ok u w2 ∧ VRel ρ1 v u := by
      unfold results
      refine key _ ?_ ?_
      · intro t; rfl
      · intro a t; rfl
    exact ⟨u, hu, u, rfl, ρ1, hg2, hr⟩
  split at h
  · rename_i T H1 h1
    split at h
    · rename_i vs hr
      simp only [Option.some.injEq, Prod.mk.injEq] at h
      refine callsIn_wide.1 (callsIn_of_wp_marks (F := Fence.wide) (n := 0) hfn hb trivial (code_sound hcall hseq hmono hm c (ro := none) (.inl rfl) h1 hs hf0 hwf (by rw [h.2]; exact hfree) ?_))
      have := fin (b := noRange c) hr h.1.symm h.2
      rw [h.2]
      exact this
    · cases h
  · rename_i T H1 h1
    split at h
    · rename_i vs hr
      simp only [Option.some.injEq, Prod.mk.injEq] at h
      refine callsIn_wide.1 (callsIn_of_wp_marks (F := Fence.wide) (n := 0) hfn hb trivial (code_sound hcall hseq hmono hm c (ro := none) (.inl rfl) h1 hs hf0 hwf (by rw [h.2]; exact hfree) ?_))
      have := fin (b := noRange c) hr h.1.symm h.2
      rw [h.2]
      exact this
    · cases h
  · cases h

/-- Sequences told by hand. -/
def SeqPrims (P : Program) (prims : Prims) : Prop := ∀ (gf : FuncId) (g : List AV → Heap → Option (AV × Heap)), prims (P.funcs.size + gf) = some g → ∀ (lb : List AV) (H : Heap) (xs : List AV) (H1 : Heap), g (.ask :: lb) H = some (.tuple xs, H1) →
  ∀ (ρ : Map) (w : World) (us : Array Value), Sim P.globals.size ρ H w → Wf H → VRels ρ lb us.toList →
    ∃ (xv : List Value) (priv : Nat → Prop) (fn : Func), VRels ρ xs xv ∧ SeqSays P gf us xv priv w ∧ Good P.globals.size ρ H w ρ H1 w ∧ (∀ B, priv B → Hidden ρ H1 B ∧ OwnsBlk ρ H B) ∧
      P.funcs[gf]? = some fn ∧ (fn.name == "runtime.NumGoroutine") = false ∧ fn.body.isNone = false
/-- Functions told by hand. -/
def PrimsOk (P : Program) (prims : Prims) : Prop := PrimsMono prims ∧ (∀ f g, prims f = some g → ∀ (args : List AV) (H : Heap) (v : AV) (H' : Heap), g args H = some (v, H') → ∀ (ρ : Map) (w : World) (us : Array Value), Sim P.globals.size ρ H w →
    Wf H → (∀ b, H.next ≤ b → b < H'.next → ρ b = none) → VRels ρ args us.toList → Does P ρ H w v H' (callFunc f us)) ∧ SeqPrims P prims

theorem noPrims_ok (P : Program) : PrimsOk P noPrims := ⟨by intro f g h; simp [noPrims] at h, by intro f g h; simp [noPrims] at h, by intro f g h; simp [noPrims] at h⟩
/-- Functions of the program alone are no sequences. -/
theorem seqPrims_of {P : Program} {prims : Prims} (h : ∀ f g, prims f = some g → ∃ fn, P.funcs[f]? = some fn) : SeqPrims P prims := by
  intro gf g hg
  obtain ⟨fn, hfn⟩ := h _ _ hg
  have := (Array.getElem?_eq_some_iff.1 hfn).1
  omega
theorem acall_seq {prims : Prims} (hp : PrimsOk P prims) : ∀ n, SeqOk P (acall P prims n)
  | 0 => by intro gf lb H xs H1 h; cases h
  | n + 1 => by
    intro gf lb H xs H1 h
    simp only [acall] at h
    split at h
    · rename_i g hg
      exact hp.2.2 gf g hg lb H xs H1 h
    · rw [Array.getElem?_eq_none (by omega)] at h
      cases h

/-- No function is called as the runtime's count of goroutines is. -/
def plainNames (P : Program) : Bool := P.funcs.all fun fn => !(fn.name == "runtime.NumGoroutine")

theorem acall_ok {prims : Prims} (hp : PrimsOk P prims) (hm : P.follows .mixedOrders = true) (hn : plainNames P = true) : ∀ n, CallOk P (acall P prims n)
  | 0 => by intro f args H v H' h; cases h
  | n + 1 => by
    intro f args H v H' h ρ w us hs hwf hfree hargs
    simp only [acall] at h
    split at h
    · rename_i g hg
      exact hp.2.1 f g hg args H v H' h ρ w us hs hwf hfree hargs
    · split at h
      · rename_i fn hfn
        obtain ⟨hb, hc⟩ := body_sound (acall_ok hp hm hn n) (acall_seq hp n) (acall_mono hp.1 n) hm hfn h hs hwf hfree hargs
        have hname : (fn.name == "runtime.NumGoroutine") = false := by
          unfold plainNames at hn
          rw [Array.all_eq_true'] at hn
          have := hn fn (Array.mem_of_getElem? hfn)
          simpa using this
        have hnone : fn.body.isNone = false := by cases hbb : fn.body <;> simp_all
        unfold Does Delivers
        have : (callFunc f us).run P w = .ok (.enter f us) w := by
          simp only [callFunc, Sem.run_bind, run_program, Result.andThen_ok, hfn, hname, hnone, Bool.false_eq_true, if_false, Sem.run_pure]
        rw [this]
        exact hc
      · cases h

/-- THE LAW: what the abstract machine says of a call, the model does. -/
theorem acall_sound {prims : Prims} (hp : PrimsOk P prims) (hm : P.follows .mixedOrders = true) (hn : plainNames P = true) {n : Nat} {f : FuncId} {fn : Func} (hfn : P.funcs[f]? = some fn) (hnp : prims f = none) {args : List AV} {H H' : Heap} {v : AV}
    (h : acall P prims n f args H = some (v, H')) {ρ : Map} {w : World} {us : Array Value} (hs : Sim P.globals.size ρ H w) (hwf : Wf H) (hfree : ∀ b, H.next ≤ b → b < H'.next → ρ b = none) (hargs : VRels ρ args us.toList) :
    Calls P f us w fun e w' => ∃ u, e = .returned u ∧ ∃ ρ', Good P.globals.size ρ H w ρ' H' w' ∧ VRel ρ' v u := by
  cases n with
  | zero => cases h
  | succ n =>
    simp only [acall, hnp, hfn] at h
    exact (body_sound (acall_ok hp hm hn n) (acall_seq hp n) (acall_mono hp.1 n) hm hfn h hs hwf hfree hargs).2

end
end Go.Abs

/- More fuel gives the same answer: a call that ends with some fuel ends so with more. -/
namespace Go.Abs
set_option linter.unusedVariables false

def CLe (c d : CallFn) : Prop := ∀ f a H r, c f a H = some r → d f a H = some r

def SmLe (s t : Option Sm) : Prop := s = t ∨ ∃ k l, s = some (.heavy k) ∧ t = some (.heavy l) ∧ ∀ H r, k H = some r → l H = some r

theorem sem_le {P : Program} {c d : CallFn} (h : CLe c d) (T : List AV) (op : Op) : SmLe (sem P c T op) (sem P d T op) := by
  cases op with
  | call cl =>
    simp only [sem, callSem]
    cases mapOpt (ev P T) cl.args.toList with
    | none => exact .inl rfl
    | some args =>
      cases cl.callee with
      | builtin b => exact .inl rfl
      | invoke _ _ => exact .inl rfl
      | value f =>
        cases hf : ev P T f with
        | none => exact .inl (by simp [hf])
        | some v =>
          cases v with
          | func fn xs ys =>
            cases fn with
            | func g =>
              refine .inr ⟨fun H => c g (xs ++ args ++ ys) H, fun H => d g (xs ++ args ++ ys) H, ?_, ?_, fun H r hr => h _ _ _ _ hr⟩ <;> simp [hf]
            | _ => exact .inl (by simp [hf])
          | _ => exact .inl (by simp [hf])
  | _ => exact .inl rfl

theorem runOp_le {P : Program} {c d : CallFn} (h : CLe c d) {T : List AV} {o : Oper} {H : Heap} {r : AV × Heap} (hr : runOp P c T o H = some r) : runOp P d T o H = some r := by
  unfold runOp at hr ⊢
  rcases sem_le (P := P) h T o.op with e | ⟨k, l, e1, e2, hk⟩
  · rw [← e]; exact hr
  · rw [e1] at hr
    rw [e2]
    exact hk _ _ hr

theorem runOps_le {P : Program} {c d : CallFn} (h : CLe c d) (ops : Array Oper) : ∀ (l : List Oper) (T : List AV) (H : Heap) (r : List AV × Heap), runOps P c ops l T H = some r → runOps P d ops l T H = some r
  | [], T, H, r, hr => hr
  | o :: os, T, H, r, hr => by
    unfold runOps at hr ⊢
    split at hr
    · rename_i hw
      rw [if_pos hw]
      cases he : runOp P c T o H with
      | none => rw [he] at hr; cases hr
      | some p =>
        rw [he] at hr
        rw [runOp_le h he]
        exact runOps_le h ops os _ _ _ hr
    · rename_i hw
      rw [if_neg hw]
      exact runOps_le h ops os _ _ _ hr

theorem lightRes_le {P : Program} {c d : CallFn} (h : CLe c d) {ops : Array Oper} {b : Array Nat} {hv : List Nat} {n0 i : Nat} {o : Oper} {s : St} {r : AV × Option AObj}
    (hr : lightRes P c ops b hv n0 i o s = some r) : lightRes P d ops b hv n0 i o s = some r := by
  unfold lightRes at hr ⊢
  split at hr
  · rename_i hw
    rw [if_pos hw]
    rcases sem_le (P := P) h s.T o.op with e | ⟨k, l, e1, e2, hk⟩
    · rw [← e]; exact hr
    · rw [e1] at hr; cases hr
  · rename_i hw
    rw [if_neg hw]
    exact hr

theorem dstep_le {P : Program} {c d : CallFn} (h : CLe c d) {ops : Array Oper} {b : Array Nat} {hv : List Nat} {n0 i : Nat} {s r : St}
    (hr : dstep P c ops b hv n0 i s = some r) : dstep P d ops b hv n0 i s = some r := by
  unfold dstep at hr ⊢
  cases ho : ops[i]? with
  | none => rw [ho] at hr; cases hr
  | some o =>
    rw [ho] at hr
    simp only [] at hr ⊢
    split at hr
    · rename_i hh
      rw [if_pos hh]
      split at hr
      · rename_i hw
        rw [if_pos hw]
        cases he : runOp P c s.T o s.H with
        | none => rw [he] at hr; cases hr
        | some p => rw [he] at hr; rw [runOp_le h he]; exact hr
      · rename_i hw
        rw [if_neg hw]
        exact hr
    · rename_i hh
      rw [if_neg hh]
      cases he : lightRes P c ops b hv n0 i o s with
      | none => rw [he] at hr; cases hr
      | some p => rw [he] at hr; rw [lightRes_le h he]; exact hr

theorem drun_le {P : Program} {c d : CallFn} (h : CLe c d) {ops : Array Oper} {b : Array Nat} {hv : List Nat} {n0 : Nat} : ∀ {is : List Nat} {s r : St},
    drun P c ops b hv n0 is s = some r → drun P d ops b hv n0 is s = some r
  | [], s, r, hr => hr
  | i :: is, s, r, hr => by
    unfold drun at hr ⊢
    cases he : dstep P c ops b hv n0 i s with
    | none => rw [he] at hr; cases hr
    | some p =>
      rw [he] at hr
      rw [dstep_le h he]
      exact drun_le h hr

theorem runRegion_le {P : Program} {c d : CallFn} (h : CLe c d) {ops : Array Oper} {draw : Bool} {T : List AV} {H : Heap} {r : List AV × Heap}
    (hr : runRegion P c ops draw T H = some r) : runRegion P d ops draw T H = some r := by
  unfold runRegion at hr ⊢
  cases draw with
  | false => exact runOps_le h ops _ _ _ _ hr
  | true =>
    simp only [if_true, drawRun] at hr ⊢
    split at hr
    · rename_i hd
      rw [if_pos hd]
      split at hr
      · rename_i s hs
        rw [drun_le h hs]
        exact hr
      · cases hr
    · cases hr

def OLe (f g : List AV → Heap → Out) : Prop := ∀ T H r, f T H = some r → g T H = some r

theorem runLoop_le {f g : List AV → Heap → Out} (h : OLe f g) : ∀ (n m : Nat), n ≤ m → OLe (runLoop f n) (runLoop g m)
  | 0, m, hm, T, H, r, hr => by cases hr
  | n + 1, 0, hm, T, H, r, hr => by omega
  | n + 1, m + 1, hm, T, H, r, hr => by
    unfold runLoop at hr ⊢
    cases he : f T H with
    | none => rw [he] at hr; cases hr
    | some p =>
      rw [he] at hr
      rw [h _ _ _ he]
      obtain ⟨x, T', H'⟩ := p
      cases x with
      | normal => exact runLoop_le h n m (by omega) _ _ _ hr
      | exit _ => exact hr
      | ret => exact hr

theorem seqRun_le {f g : AV → Heap → Out} (h : ∀ x H r, f x H = some r → g x H = some r) {T : List AV} : ∀ (xs : List AV) (H : Heap) (r : AX × List AV × Heap), seqRun f T xs H = some r → seqRun g T xs H = some r
  | [], H, r, hr => hr
  | x :: xs, H, r, hr => by
    simp only [seqRun] at hr ⊢
    cases he : f x H with
    | none => rw [he] at hr; cases hr
    | some p =>
      rw [he] at hr
      rw [h _ _ _ he]
      obtain ⟨y, T', H'⟩ := p
      cases y with
      | normal => exact seqRun_le h xs _ _ hr
      | exit _ => exact hr
      | ret => exact hr
theorem thenRun_le {f g f' g' : List AV → Heap → Out} (h : OLe f f') (h' : OLe g g') : OLe (thenRun f g) (thenRun f' g') := by
  intro T H r hr
  unfold thenRun at hr ⊢
  cases he : f T H with
  | none => rw [he] at hr; cases hr
  | some p =>
    rw [he] at hr
    rw [h _ _ _ he]
    obtain ⟨y, T', H'⟩ := p
    cases y with
    | normal => exact h' _ _ _ hr
    | exit _ => cases hr
    | ret => cases hr
theorem runCode_le {P : Program} {c d : CallFn} (h : CLe c d) {n m : Nat} (hn : n ≤ m) : ∀ (code : Code), OLe (runCode P c n code) (runCode P d m code) := by
  intro code
  induction code with
  | skip => exact fun T H r hr => hr
  | label _ => exact fun T H r hr => hr
  | ret => exact fun T H r hr => hr
  | exit _ => exact fun T H r hr => hr
  | scope b ih => exact fun T H r hr => ih T H r hr
  | region id ops draw =>
    intro T H r hr
    simp only [runCode] at hr ⊢
    cases he : runRegion P c ops draw T H with
    | none => rw [he] at hr; cases hr
    | some p => rw [he] at hr; rw [runRegion_le h he]; exact hr
  | seq a b iha ihb =>
    intro T H r hr
    simp only [runCode] at hr ⊢
    cases he : runCode P c n a T H with
    | none => rw [he] at hr; cases hr
    | some p =>
      rw [he] at hr
      rw [iha _ _ _ he]
      obtain ⟨x, T', H'⟩ := p
      cases x with
      | normal => exact ihb _ _ _ hr
      | exit _ => exact hr
      | ret => exact hr
  | cond x a b iha ihb =>
    intro T H r hr
    simp only [runCode] at hr ⊢
    split at hr
    · exact iha _ _ _ hr
    · exact ihb _ _ _ hr
    · cases hr
  | block id b ih =>
    intro T H r hr
    simp only [runCode] at hr ⊢
    cases he : runCode P c n b T H with
    | none => rw [he] at hr; cases hr
    | some p =>
      rw [he] at hr
      rw [ih _ _ _ he]
      exact hr
  | loop b ih => exact runLoop_le (fun T H r hr => ih T H r hr) n m hn
  | rangeFunc f ps a b iha ihb =>
    intro T H r hr
    simp only [runCode] at hr ⊢
    split at hr
    · rename_i hz
      rw [if_pos hz]
      split at hr
      · split at hr
        · rename_i hq
          rw [h _ _ _ _ hq]
          exact seqRun_le (fun x H r hr => thenRun_le iha ihb _ _ _ hr) _ _ _ hr
        · cases hr
      · cases hr
    · cases hr
  | _ => exact fun T H r hr => by simp [runCode] at hr

theorem acall_le {P : Program} {prims : Prims} : ∀ {n m : Nat}, n ≤ m → CLe (acall P prims n) (acall P prims m)
  | 0, m, hm, f, a, H, r, hr => by cases hr
  | n + 1, 0, hm, f, a, H, r, hr => by omega
  | n + 1, m + 1, hm, f, a, H, r, hr => by
    unfold acall at hr ⊢
    cases hp : prims f with
    | some g => rw [hp] at hr; exact hr
    | none =>
      rw [hp] at hr
      simp only [] at hr ⊢
      cases hf : P.funcs[f]? with
      | none => rw [hf] at hr; cases hr
      | some fn =>
        rw [hf] at hr
        simp only [runBody] at hr ⊢
        cases hb : fn.body with
        | none => rw [hb] at hr; cases hr
        | some code =>
          rw [hb] at hr
          simp only [] at hr ⊢
          have ih : CLe (acall P prims n) (acall P prims m) := acall_le (by omega)
          cases hc : runCode P (acall P prims n) n code (a ++ List.replicate (fn.ntmps - a.length) .undef) H with
          | none => rw [hc] at hr; cases hr
          | some p =>
            rw [hc] at hr
            rw [runCode_le ih (by omega) code _ _ _ hc]
            exact hr

end Go.Abs

/- What a piece of code comes to, step by step: the rules by which a body is walked in the abstract machine. -/
namespace Go.Abs
set_option linter.unusedVariables false

def tab (N : Nat) (e : Nat → AV) : List AV := (List.range N).map e
def setE (e : Nat → AV) (d : Nat) (v : AV) (i : Nat) : AV := if i = d then v else e i
def setEO (e : Nat → AV) : Option Tmp → AV → Nat → AV
  | some d, v => setE e d v
  | none, _ => e

theorem setE_same (e : Nat → AV) (d : Nat) (v : AV) : setE e d v d = v := by simp [setE]
theorem setE_ne (e : Nat → AV) {d i : Nat} (v : AV) (h : i ≠ d) : setE e d v i = e i := by simp [setE, h]

theorem tab_len (N : Nat) (e : Nat → AV) : (tab N e).length = N := by simp [tab]
theorem tab_at {N i : Nat} (e : Nat → AV) (h : i < N) : (tab N e)[i]? = some (e i) := by simp [tab, h]
theorem tab_get {N i : Nat} (e : Nat → AV) (h : i < N) : (tab N e).getD i .undef = e i := by simp [tab, List.getD, h]
theorem tab_ext {T : List AV} {N : Nat} {e : Nat → AV} (hl : T.length = N) (h : ∀ i, i < N → T[i]? = some (e i)) : T = tab N e := by
  apply List.ext_getElem?
  intro i
  by_cases hi : i < N
  · rw [h i hi, tab_at e hi]
  · rw [List.getElem?_eq_none (by omega), List.getElem?_eq_none (by rw [tab_len]; omega)]
theorem tab_set (N : Nat) (e : Nat → AV) (d : Nat) (v : AV) : (tab N e).set d v = tab N (setE e d v) := by
  apply tab_ext
  · simp [tab_len]
  · intro i hi
    rw [List.getElem?_set]
    by_cases h : d = i
    · subst h; simp [tab_len, hi, setE]
    · rw [if_neg h, tab_at e hi, setE_ne e v (by omega)]
theorem put_tab (N : Nat) (e : Nat → AV) (d : Option Tmp) (v : AV) : put (tab N e) d v = tab N (setEO e d v) := by
  cases d with
  | none => rfl
  | some d => exact tab_set N e d v
theorem tab_of (T : List AV) : T = tab T.length fun i => T.getD i .undef := by
  apply tab_ext rfl
  intro i hi
  simp [List.getD, hi]

theorem ev_tmp {P : Program} {N i : Nat} {e : Nat → AV} (h : i < N) : ev P (tab N e) (.tmp i) = some (e i) := by simp only [ev, tab_get e h]

/-- The lengths of the temporaries stay. -/
theorem put_len (T : List AV) (d : Option Tmp) (v : AV) : (put T d v).length = T.length := by
  cases d <;> simp [put]

theorem runOps_len {P : Program} {c : CallFn} {ops : Array Oper} : ∀ {l : List Oper} {T : List AV} {H : Heap} {r : List AV × Heap}, runOps P c ops l T H = some r → r.1.length = T.length
  | [], T, H, r, h => by cases h; rfl
  | o :: os, T, H, r, h => by
    unfold runOps at h
    split at h
    · split at h
      · rw [runOps_len h, put_len]
      · cases h
    · rw [runOps_len h, put_len]

theorem dstep_len {P : Program} {c : CallFn} {ops : Array Oper} {b : Array Nat} {hv : List Nat} {n0 i : Nat} {s r : St} (h : dstep P c ops b hv n0 i s = some r) : r.T.length = s.T.length := by
  unfold dstep at h
  split at h
  · cases h
  · split at h
    · split at h
      · split at h
        · cases h; simp [put_len]
        · cases h
      · cases h; simp [put_len]
    · split at h
      · cases h; simp [put_len]
      · cases h

theorem drun_len {P : Program} {c : CallFn} {ops : Array Oper} {b : Array Nat} {hv : List Nat} {n0 : Nat} : ∀ {is : List Nat} {s r : St}, drun P c ops b hv n0 is s = some r → r.T.length = s.T.length
  | [], s, r, h => by cases h; rfl
  | i :: is, s, r, h => by
    unfold drun at h
    split at h
    · rename_i s' hs
      rw [drun_len h, dstep_len hs]
    · cases h

section
variable (P : Program) (prims : Prims) (N : Nat)

/-! ## what a call, a piece of code, a row of operations comes to -/
def CallsA (f : FuncId) (args : List AV) (H : Heap) (K : AV → Heap → Prop) : Prop :=
  ∃ n v H', acall P prims n f args H = some (v, H') ∧ K v H'

abbrev Post := AX → (Nat → AV) → Heap → Prop

def Wp (c : Code) (e : Nat → AV) (H : Heap) (Q : Post) : Prop :=
  ∃ n x e' H', runCode P (acall P prims n) n c (tab N e) H = some (x, tab N e', H') ∧ Q x e' H'

def Ops (ops : Array Oper) (l : List Oper) (e : Nat → AV) (H : Heap) (K : (Nat → AV) → Heap → Prop) : Prop :=
  ∃ n e' H', runOps P (acall P prims n) ops l (tab N e) H = some (tab N e', H') ∧ K e' H'

def OpR (o : Oper) (e : Nat → AV) (H : Heap) (K : AV → Heap → Prop) : Prop :=
  ∃ n v H', runOp P (acall P prims n) (tab N e) o H = some (v, H') ∧ K v H'

def noCall : CallFn := fun _ _ _ => none

theorem noCall_le (c : CallFn) : CLe noCall c := fun _ _ _ _ h => by cases h

variable {P prims N}

theorem CallsA.mono {f : FuncId} {args : List AV} {H : Heap} {K L : AV → Heap → Prop} (h : CallsA P prims f args H K) (hk : ∀ v H', K v H' → L v H') : CallsA P prims f args H L := by
  obtain ⟨n, v, H', hr, k⟩ := h
  exact ⟨n, v, H', hr, hk _ _ k⟩

theorem Wp.mono {c : Code} {e : Nat → AV} {H : Heap} {Q R : Post} (h : Wp P prims N c e H Q) (hk : ∀ x e' H', Q x e' H' → R x e' H') : Wp P prims N c e H R := by
  obtain ⟨n, x, e', H', hr, k⟩ := h
  exact ⟨n, x, e', H', hr, hk _ _ _ k⟩

theorem Wp.congr {c : Code} {e e' : Nat → AV} {H : Heap} {Q : Post} (he : ∀ i, i < N → e i = e' i) (h : Wp P prims N c e H Q) : Wp P prims N c e' H Q := by
  have : tab N e = tab N e' := by
    apply tab_ext (tab_len N e)
    intro i hi
    rw [tab_at e hi, he i hi]
  unfold Wp at h ⊢
  rw [← this]
  exact h

/-! ## code -/
theorem Wp.skip {e : Nat → AV} {H : Heap} {Q : Post} (h : Q .normal e H) : Wp P prims N .skip e H Q := ⟨0, .normal, e, H, rfl, h⟩
theorem Wp.ret {e : Nat → AV} {H : Heap} {Q : Post} (h : Q .ret e H) : Wp P prims N .ret e H Q := ⟨0, .ret, e, H, rfl, h⟩
theorem Wp.exit {id : Nat} {e : Nat → AV} {H : Heap} {Q : Post} (h : Q (.exit id) e H) : Wp P prims N (.exit id) e H Q := ⟨0, .exit id, e, H, rfl, h⟩
theorem Wp.scope {c : Code} {e : Nat → AV} {H : Heap} {Q : Post} (h : Wp P prims N c e H Q) : Wp P prims N (.scope c) e H Q := h

/-- What is wanted behind the first of two pieces. -/
def Then (P : Program) (prims : Prims) (N : Nat) (b : Code) (Q : Post) : Post
  | .normal, e, H => Wp P prims N b e H Q
  | .exit id, e, H => Q (.exit id) e H
  | .ret, e, H => Q .ret e H

theorem Wp.seq {a b : Code} {e : Nat → AV} {H : Heap} {Q : Post} (h : Wp P prims N a e H (Then P prims N b Q)) : Wp P prims N (.seq a b) e H Q := by
  obtain ⟨n, x, e', H', hr, k⟩ := h
  cases x with
  | normal =>
    obtain ⟨m, y, e'', H'', hr', k'⟩ := k
    refine ⟨max n m, y, e'', H'', ?_, k'⟩
    simp only [runCode]
    rw [runCode_le (acall_le (Nat.le_max_left n m)) (Nat.le_max_left n m) a _ _ _ hr]
    exact runCode_le (acall_le (Nat.le_max_right n m)) (Nat.le_max_right n m) b _ _ _ hr'
  | exit id => exact ⟨n, .exit id, e', H', by simp only [runCode, hr], k⟩
  | ret => exact ⟨n, .ret, e', H', by simp only [runCode, hr], k⟩

theorem Wp.cond {c : Operand} {x y : Code} {e : Nat → AV} {H : Heap} {Q : Post} {b : Bool} (hc : ev P (tab N e) c = some (.bool b))
    (hx : b = true → Wp P prims N x e H Q) (hy : b = false → Wp P prims N y e H Q) : Wp P prims N (.cond c x y) e H Q := by
  cases b with
  | true =>
    obtain ⟨n, r, e', H', hr, k⟩ := hx rfl
    exact ⟨n, r, e', H', by simp only [runCode, hc, hr], k⟩
  | false =>
    obtain ⟨n, r, e', H', hr, k⟩ := hy rfl
    exact ⟨n, r, e', H', by simp only [runCode, hc, hr], k⟩

theorem Wp.condT {c : Operand} {x y : Code} {e : Nat → AV} {H : Heap} {Q : Post} (hc : ev P (tab N e) c = some (.bool true))
    (hx : Wp P prims N x e H Q) : Wp P prims N (.cond c x y) e H Q := Wp.cond hc (fun _ => hx) fun h => by cases h

theorem Wp.condF {c : Operand} {x y : Code} {e : Nat → AV} {H : Heap} {Q : Post} (hc : ev P (tab N e) c = some (.bool false))
    (hy : Wp P prims N y e H Q) : Wp P prims N (.cond c x y) e H Q := Wp.cond hc (fun h => by cases h) fun _ => hy

theorem Wp.condD {c : Operand} {x y : Code} {e : Nat → AV} {H : Heap} {Q : Post} {p : Prop} [Decidable p] (hc : ev P (tab N e) c = some (.bool (decide p)))
    (hx : p → Wp P prims N x e H Q) (hy : ¬ p → Wp P prims N y e H Q) : Wp P prims N (.cond c x y) e H Q :=
  Wp.cond hc (fun h => hx (by simpa using h)) fun h => hy (by simpa using h)

/-- What is wanted behind a block's body. -/
def Left (id : Nat) (Q : Post) : Post
  | .exit id', e, H => if id' = id then Q .normal e H else Q (.exit id') e H
  | .normal, e, H => Q .normal e H
  | .ret, e, H => Q .ret e H

theorem Wp.block {id : Nat} {c : Code} {e : Nat → AV} {H : Heap} {Q : Post} (h : Wp P prims N c e H (Left id Q)) : Wp P prims N (.block id c) e H Q := by
  obtain ⟨n, x, e', H', hr, k⟩ := h
  cases x with
  | normal => exact ⟨n, .normal, e', H', by simp only [runCode, hr], k⟩
  | ret => exact ⟨n, .ret, e', H', by simp only [runCode, hr], k⟩
  | exit id' =>
    simp only [Left] at k
    by_cases hi : id' = id
    · rw [if_pos hi] at k
      exact ⟨n, .normal, e', H', by simp only [runCode, hr, if_pos hi], k⟩
    · rw [if_neg hi] at k
      exact ⟨n, .exit id', e', H', by simp only [runCode, hr, if_neg hi], k⟩

/-- What is wanted behind a round. -/
def Round (I : Nat → (Nat → AV) → Heap → Prop) (m : Nat) (Q : Post) : Post
  | .normal, e, H => ∃ m', m' < m ∧ I m' e H
  | .exit id, e, H => Q (.exit id) e H
  | .ret, e, H => Q .ret e H

theorem Wp.loop {c : Code} {Q : Post} (I : Nat → (Nat → AV) → Heap → Prop) (hround : ∀ m e H, I m e H → Wp P prims N c e H (Round I m Q)) :
    ∀ {m : Nat} {e : Nat → AV} {H : Heap}, I m e H → Wp P prims N (.loop c) e H Q := by
  intro m
  induction m using Nat.strongRecOn with
  | ind m ih =>
    intro e H hi
    obtain ⟨n, x, e', H', hr, k⟩ := hround m e H hi
    cases x with
    | normal =>
      obtain ⟨m', hm, hi'⟩ := k
      obtain ⟨n', y, e'', H'', hr', k'⟩ := ih m' hm hi'
      refine ⟨max n n' + 1, y, e'', H'', ?_, k'⟩
      show runLoop _ (max n n' + 1) _ _ = _
      unfold runLoop
      rw [runCode_le (acall_le (by omega : n ≤ max n n' + 1)) (by omega) c _ _ _ hr]
      exact runLoop_le (fun T H r h => runCode_le (acall_le (by omega : n' ≤ max n n' + 1)) (by omega) c T H r h) n' (max n n') (by omega) _ _ _ hr'
    | exit id =>
      refine ⟨n + 1, .exit id, e', H', ?_, k⟩
      show runLoop _ (n + 1) _ _ = _
      unfold runLoop
      rw [runCode_le (acall_le (by omega : n ≤ n + 1)) (by omega) c _ _ _ hr]
    | ret =>
      refine ⟨n + 1, .ret, e', H', ?_, k⟩
      show runLoop _ (n + 1) _ _ = _
      unfold runLoop
      rw [runCode_le (acall_le (by omega : n ≤ n + 1)) (by omega) c _ _ _ hr]

theorem Wp.region {id : Nat} {ops : Array Oper} {e : Nat → AV} {H : Heap} {Q : Post} (h : Ops P prims N ops ops.toList e H (Q .normal)) : Wp P prims N (.region id ops false) e H Q := by
  obtain ⟨n, e', H', hr, k⟩ := h
  refine ⟨n, .normal, e', H', ?_, k⟩
  simp only [runCode, runRegion, hr]
  rfl

/-! ## operations in their order -/
theorem Ops.nil {ops : Array Oper} {e : Nat → AV} {H : Heap} {K : (Nat → AV) → Heap → Prop} (h : K e H) : Ops P prims N ops [] e H K := ⟨0, e, H, rfl, h⟩

theorem Ops.cons {ops : Array Oper} {o : Oper} {os : List Oper} {e : Nat → AV} {H : Heap} {K : (Nat → AV) → Heap → Prop} (hg : wantedA ops (tab N e) o = true)
    (h : OpR P prims N o e H fun v H' => Ops P prims N ops os (setEO e o.dst v) H' K) : Ops P prims N ops (o :: os) e H K := by
  obtain ⟨n, v, H', hr, m, e', H'', hr', k⟩ := h
  refine ⟨max n m, e', H'', ?_, k⟩
  unfold runOps
  rw [if_pos hg, runOp_le (acall_le (Nat.le_max_left n m)) hr]
  simp only [put_tab]
  exact runOps_le (acall_le (Nat.le_max_right n m)) _ _ _ _ _ hr'

theorem Ops.unwanted {ops : Array Oper} {o : Oper} {os : List Oper} {e : Nat → AV} {H : Heap} {K : (Nat → AV) → Heap → Prop} (hg : wantedA ops (tab N e) o = false)
    (h : Ops P prims N ops os (setEO e o.dst .undef) H K) : Ops P prims N ops (o :: os) e H K := by
  obtain ⟨m, e', H'', hr', k⟩ := h
  refine ⟨m, e', H'', ?_, k⟩
  unfold runOps
  rw [if_neg (by simp [hg])]
  simp only [put_tab]
  exact hr'

theorem OpR.mk {o : Oper} {e : Nat → AV} {H : Heap} {K : AV → Heap → Prop} {v : AV} {H' : Heap} (h : runOp P noCall (tab N e) o H = some (v, H')) (k : K v H') : OpR P prims N o e H K :=
  ⟨0, v, H', runOp_le (noCall_le _) h, k⟩

/-- What an operation that is no call comes to. -/
def opR (P : Program) (N : Nat) (e : Nat → AV) (op : Op) (H : Heap) : Option (AV × Heap) :=
  match sem P noCall (tab N e) op with
  | some s => s.run H
  | none => none

/-- An operation that is no call, and not left out. -/
theorem Ops.op {ops : Array Oper} {d : Tmp} {op : Op} {t : TypeId} {pos : String} {after : Array Edge} {os : List Oper} {e : Nat → AV} {H : Heap} {K : (Nat → AV) → Heap → Prop} {v : AV} {H' : Heap}
    (hr : opR P N e op H = some (v, H')) (h : Ops P prims N ops os (setE e d v) H' K) : Ops P prims N ops ({ dst := some d, op := op, type := t, pos := pos, after := after, guard := none } :: os) e H K :=
  Ops.cons rfl (OpR.mk hr h)

theorem Ops.op0 {ops : Array Oper} {op : Op} {t : TypeId} {pos : String} {after : Array Edge} {os : List Oper} {e : Nat → AV} {H : Heap} {K : (Nat → AV) → Heap → Prop} {v : AV} {H' : Heap}
    (hr : opR P N e op H = some (v, H')) (h : Ops P prims N ops os e H' K) : Ops P prims N ops ({ dst := none, op := op, type := t, pos := pos, after := after, guard := none } :: os) e H K :=
  Ops.cons rfl (OpR.mk hr h)

/-- Where an operation's answer lies. -/
def yDst (ops : Array Oper) (j : Nat) : Option Tmp :=
  match ops[j]? with
  | some o => o.dst
  | none => none

theorem wanted_guard {ops : Array Oper} {o : Oper} {e : Nat → AV} {j : Nat} {want b : Bool} {d' : Tmp} (ho : o.guard = some (j, want)) (hj : yDst ops j = some d') (hN : d' < N) (hb : e d' = .bool b) :
    wantedA ops (tab N e) o = (b == want) := by
  unfold yDst at hj
  unfold wantedA yieldedA
  cases hq : ops[j]? with
  | none => rw [hq] at hj; cases hj
  | some q =>
    rw [hq] at hj
    simp only [] at hj
    simp [ho, hq, hj, tab_at e hN, hb]

/-- A guarded operation that is wanted. -/
theorem Ops.gop {ops : Array Oper} {d : Tmp} {op : Op} {t : TypeId} {pos : String} {after : Array Edge} {os : List Oper} {e : Nat → AV} {H : Heap} {K : (Nat → AV) → Heap → Prop} {v : AV} {H' : Heap} {j : Nat} {want : Bool} {d' : Tmp}
    (hj : yDst ops j = some d') (hN : d' < N) (hb : e d' = .bool want)
    (hr : opR P N e op H = some (v, H')) (h : Ops P prims N ops os (setE e d v) H' K) : Ops P prims N ops ({ dst := some d, op := op, type := t, pos := pos, after := after, guard := some (j, want) } :: os) e H K :=
  Ops.cons (by rw [wanted_guard rfl hj hN hb]; simp) (OpR.mk hr h)

theorem Ops.gop0 {ops : Array Oper} {op : Op} {t : TypeId} {pos : String} {after : Array Edge} {os : List Oper} {e : Nat → AV} {H : Heap} {K : (Nat → AV) → Heap → Prop} {v : AV} {H' : Heap} {j : Nat} {want : Bool} {d' : Tmp}
    (hj : yDst ops j = some d') (hN : d' < N) (hb : e d' = .bool want)
    (hr : opR P N e op H = some (v, H')) (h : Ops P prims N ops os e H' K) : Ops P prims N ops ({ dst := none, op := op, type := t, pos := pos, after := after, guard := some (j, want) } :: os) e H K :=
  Ops.cons (by rw [wanted_guard rfl hj hN hb]; simp) (OpR.mk hr h)

/-- A guarded operation that is not. -/
theorem Ops.gskip {ops : Array Oper} {d : Tmp} {op : Op} {t : TypeId} {pos : String} {after : Array Edge} {os : List Oper} {e : Nat → AV} {H : Heap} {K : (Nat → AV) → Heap → Prop} {j : Nat} {want : Bool} {d' : Tmp}
    (hj : yDst ops j = some d') (hN : d' < N) (hb : e d' = .bool !want)
    (h : Ops P prims N ops os (setE e d .undef) H K) : Ops P prims N ops ({ dst := some d, op := op, type := t, pos := pos, after := after, guard := some (j, want) } :: os) e H K :=
  Ops.unwanted (by rw [wanted_guard rfl hj hN hb]; simp) h

theorem Ops.gskip0 {ops : Array Oper} {op : Op} {t : TypeId} {pos : String} {after : Array Edge} {os : List Oper} {e : Nat → AV} {H : Heap} {K : (Nat → AV) → Heap → Prop} {j : Nat} {want : Bool} {d' : Tmp}
    (hj : yDst ops j = some d') (hN : d' < N) (hb : e d' = .bool !want)
    (h : Ops P prims N ops os e H K) : Ops P prims N ops ({ dst := none, op := op, type := t, pos := pos, after := after, guard := some (j, want) } :: os) e H K :=
  Ops.unwanted (by rw [wanted_guard rfl hj hN hb]; simp) h

theorem OpR.call {o : Oper} {c : Call} {e : Nat → AV} {H : Heap} {K : AV → Heap → Prop} {x : Operand} {f : FuncId} {first captured args : List AV} (ho : o.op = .call c) (hc : c.callee = .value x)
    (hf : ev P (tab N e) x = some (.func (.func f) first captured)) (ha : mapOpt (ev P (tab N e)) c.args.toList = some args)
    (h : CallsA P prims f (first ++ args ++ captured) H K) : OpR P prims N o e H K := by
  obtain ⟨n, v, H', hr, k⟩ := h
  refine ⟨n, v, H', ?_, k⟩
  simp only [runOp, ho, sem, callSem, ha, hc, hf, Sm.run, hr]

theorem Ops.call {ops : Array Oper} {d : Tmp} {xs : Array Operand} {ts : Array TypeId} {t : TypeId} {pos : String} {after : Array Edge} {os : List Oper} {e : Nat → AV} {H : Heap} {K : (Nat → AV) → Heap → Prop} {f : FuncId} {args : List AV}
    (ha : mapOpt (ev P (tab N e)) xs.toList = some args)
    (h : CallsA P prims f args H fun v H' => Ops P prims N ops os (setE e d v) H' K) :
    Ops P prims N ops ({ dst := some d, op := .call { callee := .value (.func f), args := xs, argTypes := ts }, type := t, pos := pos, after := after, guard := none } :: os) e H K := by
  refine Ops.cons rfl (OpR.call (first := []) (captured := []) rfl rfl rfl ha ?_)
  simp only [List.nil_append, List.append_nil]
  exact h

theorem Ops.gcall {ops : Array Oper} {d : Tmp} {xs : Array Operand} {ts : Array TypeId} {t : TypeId} {pos : String} {after : Array Edge} {os : List Oper} {e : Nat → AV} {H : Heap} {K : (Nat → AV) → Heap → Prop} {f : FuncId} {args : List AV} {j : Nat} {want : Bool} {d' : Tmp}
    (hj : yDst ops j = some d') (hN : d' < N) (hb : e d' = .bool want)
    (ha : mapOpt (ev P (tab N e)) xs.toList = some args)
    (h : CallsA P prims f args H fun v H' => Ops P prims N ops os (setE e d v) H' K) :
    Ops P prims N ops ({ dst := some d, op := .call { callee := .value (.func f), args := xs, argTypes := ts }, type := t, pos := pos, after := after, guard := some (j, want) } :: os) e H K := by
  refine Ops.cons (by rw [wanted_guard rfl hj hN hb]; simp) (OpR.call (first := []) (captured := []) rfl rfl rfl ha ?_)
  simp only [List.nil_append, List.append_nil]
  exact h

/-! ## what is wanted behind -/
theorem Then.normal {b : Code} {Q : Post} {e : Nat → AV} {H : Heap} (h : Wp P prims N b e H Q) : Then P prims N b Q .normal e H := h
theorem Then.exit {b : Code} {Q : Post} {e : Nat → AV} {H : Heap} {id : Nat} (h : Q (.exit id) e H) : Then P prims N b Q (.exit id) e H := h
theorem Then.ret {b : Code} {Q : Post} {e : Nat → AV} {H : Heap} (h : Q .ret e H) : Then P prims N b Q .ret e H := h
theorem Left.normal {id : Nat} {Q : Post} {e : Nat → AV} {H : Heap} (h : Q .normal e H) : Left id Q .normal e H := h
theorem Left.ret {id : Nat} {Q : Post} {e : Nat → AV} {H : Heap} (h : Q .ret e H) : Left id Q .ret e H := h
theorem Left.here {id : Nat} {Q : Post} {e : Nat → AV} {H : Heap} (h : Q .normal e H) : Left id Q (.exit id) e H := by simp only [Left, if_true]; exact h
theorem Left.beyond {id id' : Nat} {Q : Post} {e : Nat → AV} {H : Heap} (hi : id' ≠ id) (h : Q (.exit id') e H) : Left id Q (.exit id') e H := by simp only [Left, if_neg hi]; exact h
theorem Round.exit {I : Nat → (Nat → AV) → Heap → Prop} {m : Nat} {Q : Post} {e : Nat → AV} {H : Heap} {id : Nat} (h : Q (.exit id) e H) : Round I m Q (.exit id) e H := h
theorem Round.ret {I : Nat → (Nat → AV) → Heap → Prop} {m : Nat} {Q : Post} {e : Nat → AV} {H : Heap} (h : Q .ret e H) : Round I m Q .ret e H := h
theorem Round.normal {I : Nat → (Nat → AV) → Heap → Prop} {m : Nat} {Q : Post} {e : Nat → AV} {H : Heap} (m' : Nat) (hm : m' < m) (h : I m' e H) : Round I m Q .normal e H := ⟨m', hm, h⟩

/-- A prim's call. -/
theorem CallsA.prim {f : FuncId} {g : List AV → Heap → Option (AV × Heap)} {args : List AV} {H H' : Heap} {v : AV} {K : AV → Heap → Prop} (hp : prims f = some g) (h : g args H = some (v, H')) (k : K v H') : CallsA P prims f args H K := by
  refine ⟨1, v, H', ?_, k⟩
  unfold acall
  simp only [hp, h]

theorem opR_eq (P : Program) (N : Nat) (e : Nat → AV) (op : Op) (H : Heap) : opR P N e op H = match sem P noCall (tab N e) op with | some s => s.run H | none => none := rfl
theorem setE_eq (e : Nat → AV) (d : Nat) (v : AV) (i : Nat) : setE e d v i = if i = d then v else e i := rfl
theorem ev_const {P : Program} {T : List AV} {v : Value} : ev P T (.const v) = ofConst v := rfl

/-! ## a body -/
def argEnv (args : List AV) : Nat → AV := fun i => args.getD i .undef

theorem args_tab {args : List AV} (h : args.length ≤ N) : args ++ List.replicate (N - args.length) .undef = tab N (argEnv args) := by
  apply tab_ext
  · simp; omega
  · intro i hi
    by_cases hl : i < args.length
    · rw [List.getElem?_append_left hl]
      simp [argEnv, List.getD, hl]
    · rw [List.getElem?_append_right (by omega)]
      have : args[i]? = none := List.getElem?_eq_none (by omega)
      simp only [argEnv, List.getD, this]
      rw [List.getElem?_replicate, if_pos (by omega)]
      rfl

theorem CallsA.of {f : FuncId} {fn : Func} {c : Code} {args : List AV} {H : Heap} {K : AV → Heap → Prop} (hf : P.funcs[f]? = some fn) (hp : prims f = none) (hb : fn.body = some c) (hN : fn.ntmps = N)
    (hl : args.length ≤ N)
    (h : Wp P prims N c (argEnv args) H fun x e' H' => x ∈ [AX.normal, AX.ret] ∧ ∃ vs, resultsA P (tab N e') H' fn.results.toList = some vs ∧ K (tupled vs) H') : CallsA P prims f args H K := by
  obtain ⟨n, x, e', H', hr, hx, vs, hv, k⟩ := h
  refine ⟨n + 1, tupled vs, H', ?_, k⟩
  unfold acall
  simp only [hp, hf, runBody, hb, hN, args_tab hl, hr]
  cases x with
  | exit id => simp at hx
  | normal => simp only [hv]
  | ret => simp only [hv]

end
attribute [irreducible] CallsA Wp Ops OpR Then Left Round setE tab opR
end Go.Abs

/- A law that answers true: what the abstract machine says of it is what its row says. -/
namespace Go.Abs
open Go.ChangeShapes Go.WideShapes Go.RowKit
set_option linter.unusedVariables false

/-- What is known of an argument. -/
def PicV (P : Program) (H : Heap) (n : Nat) (t : TypeId) (a : AV) : Prop :=
  match P.underlying t with
  | some (.struct _) | some (.array _ _) => ∃ cs, a = .agg cs ∧ Pic P H n t cs
  | _ => Pic P H n t [a]

def PicAll (P : Program) (H : Heap) (n : Nat) : List TypeId → List AV → Prop
  | [], as => as = []
  | t :: ts, as => ∃ a r, as = a :: r ∧ PicV P H n t a ∧ PicAll P H n ts r

theorem PicV.mono {P : Program} {H H' : Heap} (h : HExt H H') {n : Nat} {t : TypeId} {a : AV} (hp : PicV P H n t a) : PicV P H' n t a := by
  unfold PicV at hp ⊢
  split at hp
  · obtain ⟨cs, e, hp⟩ := hp; exact ⟨cs, e, Pic.mono h _ _ _ hp⟩
  · obtain ⟨cs, e, hp⟩ := hp; exact ⟨cs, e, Pic.mono h _ _ _ hp⟩
  · exact Pic.mono h _ _ _ hp

section
variable {D : Type} {enc : TypeId × Value → D} {P : Program} {w : World}

theorem value_read {n : Nat} {t : TypeId} {v : Value} {d : DataW D} {ps : List MemPlace} {base : Nat} (hr : readable P n t = true) (hok : Value.okWide P w .any base t v)
    (h : DataW.Trod enc P w 0 (fun _ => true) true t v d ps) (ρ : Map) (H : Heap) (hi : Held P.globals.size ρ H w) (hG : P.globals.size ≤ H.next) :
    ∃ ρ' H' a, Held P.globals.size ρ' H' w ∧ Ext ρ ρ' ∧ HExt H H' ∧ VRel ρ' a v ∧ PicV P H' n t a := by
  obtain ⟨fuel, hf⟩ := h
  obtain ⟨ρ', H', acs, i1, e1, x1, v1, p1⟩ := reads_ok n t _ fuel _ hr hf ρ H hi hG
  have single : (∀ cs, v ≠ .agg cs) → ∃ a, acs = [a] ∧ VRel ρ' a v := by
    intro hv
    have : v.cells.toList = [v] := by
      cases v <;> first | rfl | exact absurd rfl (hv _)
    rw [this] at v1
    cases acs with
    | nil => simp [VRels] at v1
    | cons a r =>
      obtain ⟨y, ys, e, h1, h2⟩ := v1
      injection e with e2 e3
      subst e2; subst e3
      cases r with
      | nil => exact ⟨a, rfl, h1⟩
      | cons b r => obtain ⟨_, _, e, _⟩ := h2; cases e
  have agg : (∃ cs, v = .agg cs) → VRel ρ' (.agg acs) v := by
    rintro ⟨cs, rfl⟩
    exact ⟨cs, rfl, v1⟩
  cases n with
  | zero => cases hr
  | succ n =>
    unfold readable at hr
    unfold PicV
    unfold Value.okWide at hok
    split at hr
    · rename_i hu
      simp only [hu] at hok ⊢
      obtain ⟨a, rfl, ha⟩ := single (by intro cs e; subst e; simp [Cell.okWide, Cell.ok, hu] at hok)
      exact ⟨ρ', H', a, i1, e1, x1, ha, p1⟩
    · rename_i hu
      simp only [hu] at hok ⊢
      obtain ⟨a, rfl, ha⟩ := single (by intro cs e; subst e; simp [Cell.okWide, Cell.ok, hu] at hok)
      exact ⟨ρ', H', a, i1, e1, x1, ha, p1⟩
    · rename_i hu
      simp only [hu] at hok ⊢
      obtain ⟨a, rfl, ha⟩ := single (by intro cs e; subst e; simp [Cell.okWide, Cell.ok, hu] at hok)
      exact ⟨ρ', H', a, i1, e1, x1, ha, p1⟩
    · rename_i hu
      simp only [hu] at hok ⊢
      obtain ⟨a, rfl, ha⟩ := single (by intro cs e; subst e; simp [Cell.okWide, Cell.ok, hu] at hok)
      exact ⟨ρ', H', a, i1, e1, x1, ha, p1⟩
    · rename_i hu
      simp only [hu] at hok ⊢
      obtain ⟨cs, e, _⟩ := hok
      exact ⟨ρ', H', _, i1, e1, x1, agg ⟨cs, e⟩, acs, rfl, p1⟩
    · rename_i hu
      simp only [hu] at hok ⊢
      obtain ⟨cs, e, _⟩ := hok
      exact ⟨ρ', H', _, i1, e1, x1, agg ⟨cs, e⟩, acs, rfl, p1⟩
    · cases hr

theorem values_read {n : Nat} {base : Nat} : ∀ (ts : List TypeId) (vs : List Value) (ds : List (DataW D)) (ps : List MemPlace), (∀ t ∈ ts, readable P n t = true) →
    (∀ (j : Nat) t v, ts[j]? = some t → vs[j]? = some v → Value.okWide P w .any base t v) → DataW.TrodAll enc P w 0 (fun _ => true) true ts vs ds ps →
    ∀ (ρ : Map) (H : Heap), Held P.globals.size ρ H w → P.globals.size ≤ H.next →
    ∃ ρ' H' as, Held P.globals.size ρ' H' w ∧ Ext ρ ρ' ∧ HExt H H' ∧ VRels ρ' as vs ∧ PicAll P H' n ts as
  | [], vs, ds, ps, _, _, hA, ρ, H, hi, hG => by
    obtain ⟨rfl, rfl, rfl⟩ := trodAll_nil hA
    exact ⟨ρ, H, [], hi, Ext.refl ρ, HExt.refl H, rfl, rfl⟩
  | t :: ts, vs, ds, ps, hr, hval, hA, ρ, H, hi, hG => by
    obtain ⟨v, vs', d, ds', p, q, rfl, rfl, rfl, h0, hA'⟩ := trodAll_cons hA
    obtain ⟨ρ1, H1, a, i1, e1, x1, v1, p1⟩ := value_read (hr t (by simp)) (hval 0 t v rfl rfl) h0 ρ H hi hG
    obtain ⟨ρ2, H2, as, i2, e2, x2, v2, p2⟩ := values_read ts vs' ds' q (fun t h => hr t (by simp [h])) (fun j t v h g => hval (j + 1) t v (by simpa using h) (by simpa using g)) hA' ρ1 H1 i1 (Nat.le_trans hG x1.1)
    exact ⟨ρ2, H2, a :: as, i2, e1.trans e2, x1.trans x2, ⟨v, vs', rfl, VRel.mono e2 _ _ v1, v2⟩, a, as, rfl, p1.mono x2, p2⟩

theorem start_inv (G : Nat) (w : World) : Held G (fun g => if g < G then some ⟨g, 0, 0⟩ else none) (Heap.start G) w where
  sim := { obj := fun b o h => (by cases h), apart := fun b b' o o' p p' h => (by cases h), glob := fun g hg => ⟨⟨g, 0, 0⟩, by simp [hg], rfl, rfl⟩ }
  ro := fun b o h => by cases h
  wf := fun b h => rfl
  free := fun b h => by have : G ≤ b := h; simp; omega

/-- The law's call in the model, by its call in the abstract machine. -/
theorem law_calls {prims : Prims} (hp : PrimsOk P prims) (hm : P.follows .mixedOrders = true) (hn : plainNames P = true) {f : FuncId} {fn : Func} (hfn : P.funcs[f]? = some fn) (hnp : prims f = none)
    {n : Nat} {base : Nat} {ts : List TypeId} {args : Array Value} {ds : List (DataW D)} {ps : List MemPlace} (hr : ∀ t ∈ ts, readable P n t = true)
    (main : ∀ (H : Heap) (as : List AV), P.globals.size ≤ H.next → Wf H → PicAll P H n ts as → CallsA P prims f as H fun v _ => v = .bool true)
    (hval : ∀ (j : Nat) t v, ts[j]? = some t → args.toList[j]? = some v → Value.okWide P w .any base t v) (hA : DataW.TrodAll enc P w 0 (fun _ => true) true ts args.toList ds ps) :
    Calls P f args w fun e w' => e = .returned (.bool true) ∧ Below w.heap.size w w' := by
  obtain ⟨ρ, H, as, hi, _, hx, hv, hpic⟩ := values_read ts args.toList ds ps hr hval hA _ _ (start_inv P.globals.size w) (Nat.le_refl _)
  have hc := main H as hx.1 hi.wf hpic
  unfold CallsA at hc
  obtain ⟨k, v, H', hrun, rfl⟩ := hc
  refine (acall_sound hp hm hn hfn hnp hrun hi.sim hi.wf (fun b h _ => hi.free b h) hv).mono fun e w' ⟨u, he, ρ', hg, hu⟩ => ?_
  have hu : u = .bool true := hu
  subst hu
  refine ⟨he, hg.keeps.os, hg.keeps.tape, hg.keeps.output, hg.keeps.size, fun b hb => ?_⟩
  obtain ⟨o, ho⟩ : ∃ o, w.heap[b]? = some o := ⟨w.heap[b], by simp [hb]⟩
  rw [ho]
  refine hg.keeps.kept b o ho ?_
  rintro ⟨b', o', p, h1, h2, _⟩
  rw [hi.ro b' o' h1] at h2
  cases h2

theorem trodAll_behind (hl : laidOutB P = true) {w' : World} (hb : Below w.heap.size w w') : ∀ (ts : List TypeId) (vs : List Value) (ds : List (DataW D)) (ps : List MemPlace),
    (∀ t ∈ ts, P.readableRec t = true ∧ t < P.types.size) → DataW.TrodAll enc P w 0 (fun _ => true) true ts vs ds ps →
    ∃ qs, DataW.TrodAll enc P w' 0 (fun b => decide (b < w.heap.size)) true ts vs ds qs
  | [], vs, ds, ps, _, hA => by
    obtain ⟨rfl, rfl, rfl⟩ := trodAll_nil hA
    exact ⟨[], trodAll_mk0⟩
  | t :: ts, vs, ds, ps, hr, hA => by
    obtain ⟨v, vs', d, ds', p, q, rfl, rfl, rfl, h0, hA'⟩ := trodAll_cons hA
    obtain ⟨qs, hq⟩ := trodAll_behind hl hb ts vs' ds' q (fun t h => hr t (by simp [h])) hA'
    have lt : ∀ x ∈ p, x.block < w.heap.size := by obtain ⟨m, hm⟩ := h0; exact DataW.trod_lt m _ _ _ hm
    exact ⟨_, trodAll_cons_mk (Below.trod hl (hr t (by simp)).1 (hr t (by simp)).2 h0 hb lt) hq⟩

theorem trodAll_len : ∀ (ts : List TypeId) (vs : List Value) (ds : List (DataW D)) (ps : List MemPlace), DataW.TrodAll enc P w 0 (fun _ => true) true ts vs ds ps → ds.length = ts.length
  | [], vs, ds, ps, hA => by
    obtain ⟨rfl, rfl, rfl⟩ := trodAll_nil hA
    rfl
  | t :: ts, vs, ds, ps, hA => by
    obtain ⟨v, vs', d, ds', p, q, rfl, rfl, rfl, h0, hA'⟩ := trodAll_cons hA
    simp [trodAll_len ts vs' ds' q hA']

/-- What a law's row asks for: it answers true, and its arguments read as they did. -/
theorem law_post {s : ChangeSpec} {fn : Func} {f : FuncId} (hl : laidOutB P = true) (hs : s.vars = []) (hfn : ∀ (ds : List (DataW D)), ds.length = fn.params.toList.length → s.fn D ds = { results := [.lit (.bool true)], args := ds, vars := [] })
    {tb : TypeId} (hres : fn.resultTypes = #[tb]) (hb : P.underlying tb = some .bool) (hts : ∀ t ∈ fn.params.toList, P.readableRec t = true ∧ t < P.types.size)
    {args : Array Value} {ds gs : List (DataW D)} {before : List MemPlace}
    (hW : DataW.Whole enc P fn.params.toList s.vars false w args.toList ds gs before)
    (hcall : ∀ p, DataW.TrodAll enc P w 0 (fun _ => true) true fn.params.toList args.toList ds p → Calls P f args w fun e w' => e = .returned (.bool true) ∧ Below w.heap.size w w') :
    Calls P f args w fun e w' => ∃ v, e = .returned v ∧ s.post enc P fn false true false false w args v w' := by
  have hW' := hW
  obtain ⟨p, q, hA, hV, rfl, hfz, hnd⟩ := hW
  rw [hs] at hV
  obtain ⟨rfl, rfl⟩ := trodVars_none hV
  have hlen : ds.length = fn.params.toList.length := trodAll_len _ _ _ _ hA
  refine (hcall p hA).mono fun e w' ⟨he, bel⟩ => ?_
  obtain ⟨qs, hq⟩ := trodAll_behind hl bel _ _ _ _ hts hA
  have e1 := hfn ds hlen
  refine ⟨.bool true, he, ds, [], _, [], qs, [], hW', ?_, ?_, ?_, bel.frame _, fun h => (by cases h)⟩
  · rw [List.append_nil, e1, hres]
    exact trodAll_mk1 (shut_bool hb _)
  · rw [List.append_nil, e1]
    exact hq
  · rw [hs]
    show DataW.TrodVars enc P w' _ [] (s.fn D (ds ++ [])).vars []
    rw [List.append_nil, e1]
    rfl

end
end Go.Abs

/- A call with no argument that the kernel has evaluated from the empty memory, used wherever it stands. -/
namespace Go.Abs
set_option linter.unusedVariables false

def plainAV : AV → Bool
  | .bool _ => true
  | .int _ _ => true
  | .str _ => true
  | _ => false

theorem VRel.plain {ρ ρ' : Map} {v : AV} {u : Value} (h : plainAV v = true) (hv : VRel ρ v u) : VRel ρ' v u := by
  cases v <;> first | exact hv | cases h

/-- Functions of no argument, each with what it comes to. -/
def closedPrims (l : List (FuncId × AV)) : Prims := fun f => match l.find? fun p => p.1 == f with
  | some p => some fun args H => if args.isEmpty then some (p.2, H) else none
  | none => none

theorem Delivers.mono' {P : Program} {s : Sem Next} {w : World} {Q R : Value → World → Prop} (h : Delivers P s w Q) (k : ∀ u w', Q u w' → R u w') : Delivers P s w R := by
  unfold Delivers at h ⊢
  split at h <;> first | exact h.elim | exact k _ _ h | exact h.mono fun e w' ⟨u, he, hq⟩ => ⟨u, he, k _ _ hq⟩ | exact h

theorem closedPrims_ok {P : Program} (hm : P.follows .mixedOrders = true) (hn : plainNames P = true) {l : List (FuncId × AV)}
    (h : ∀ p ∈ l, plainAV p.2 = true ∧ ∃ n H', acall P noPrims n p.1 [] (Heap.start P.globals.size) = some (p.2, H')) : PrimsOk P (closedPrims l) := by
  refine ⟨?_, ?_, ?_⟩
  · intro f g hf args H v H' hg
    unfold closedPrims at hf
    split at hf
    · injection hf with hf
      subst hf
      simp only [] at hg
      split at hg
      · injection hg with hg; injection hg with _ hg; subst hg; exact Nat.le_refl _
      · cases hg
    · cases hf
  · intro f g hf args H v H' hg ρ w us hs hwf hfree hargs
    unfold closedPrims at hf
    split at hf
    · rename_i p hp
      injection hf with hf
      subst hf
      simp only [] at hg
      split at hg
      · rename_i he
        injection hg with hg; injection hg with h1 h2; subst h1; subst h2
        have hargs' : args = [] := by simpa using he
        subst hargs'
        have hmem := List.mem_of_find?_eq_some hp
        have hpf : p.1 = f := by simpa using List.find?_some hp
        obtain ⟨hpl, n, H', hrun⟩ := h p hmem
        rw [hpf] at hrun
        have hstart : Sim P.globals.size (fun g => if g < P.globals.size then some ⟨g, 0, 0⟩ else none) (Heap.start P.globals.size) w :=
          { obj := fun b o h => (by cases h), apart := fun b b' o o' p p' h => (by cases h), glob := fun g hg => ⟨⟨g, 0, 0⟩, by simp [hg], rfl, rfl⟩ }
        have hd := acall_ok (noPrims_ok P) hm hn n f [] _ _ _ hrun _ w us hstart (fun b _ => rfl) (fun b hb _ => by have : P.globals.size ≤ b := hb; simp; omega) hargs
        refine Delivers.mono' hd fun u w' ⟨ρ', hg, hv⟩ => ⟨ρ, ?_, VRel.plain hpl hv⟩
        have kept : ∀ (B : Nat) (o : Obj), w.heap[B]? = some o → w'.heap[B]? = some o := fun B o hB => hg.keeps.kept B o hB (by rintro ⟨b, o', p, h1, _⟩; cases h1)
        exact
          { sim := { obj := fun b o hb => (hs.obj b o hb).grow (Ext.refl ρ) kept, apart := hs.apart, glob := hs.glob }
            ext := Ext.refl ρ
            out := fun _ _ => rfl
            next := Nat.le_refl _
            dom := fun _ h _ => h
            ro := fun _ _ h _ _ => h
            keeps := { size := hg.keeps.size, kept := fun B o hB _ => kept B o hB, owns := fun B h => .inr h, tape := hg.keeps.tape, os := hg.keeps.os, output := hg.keeps.output } }
      · cases hg
    · cases hf
  · intro gf g hf lb H xs H1 hg
    unfold closedPrims at hf
    split at hf
    · injection hf with hf
      subst hf
      simp at hg
    · cases hf

end Go.Abs

/- Each operation's answer as a rule that rewrites: cheap to use, and stuck where it is not told. -/
namespace Go.Abs
set_option linter.unusedVariables false

section
variable {P : Program} {N : Nat} {e : Nat → AV} {H : Heap}

def mvR : Option AV → Heap → Option (AV × Heap)
  | some v, H => some (v, H)
  | none, _ => none
theorem opR_move (x : Operand) : opR P N e (.move x) H = mvR (ev P (tab N e) x) H := by
  simp only [opR_eq, sem]; cases ev P (tab N e) x <;> rfl
theorem opR_assign (x : Operand) : opR P N e (.assign x) H = mvR (ev P (tab N e) x) H := by
  simp only [opR_eq, sem]; cases ev P (tab N e) x <;> rfl
theorem mvR_some (v : AV) : mvR (some v) H = some (v, H) := rfl

def pickR : Option AV → Option AV → Option AV → Heap → Option (AV × Heap)
  | some (.bool t), some x, some y, H => some (if t then x else y, H)
  | _, _, _, _ => none
theorem opR_pick (c a b : Operand) : opR P N e (.pick c a b) H = pickR (ev P (tab N e) c) (ev P (tab N e) a) (ev P (tab N e) b) H := by
  simp only [opR_eq, sem]
  cases ev P (tab N e) c with
  | none => rfl
  | some v => cases v <;> cases ev P (tab N e) a <;> cases ev P (tab N e) b <;> rfl
theorem pickR_eq (t : Bool) (x y : AV) : pickR (some (.bool t)) (some x) (some y) H = some (if t then x else y, H) := rfl

def binR (P : Program) (op : BinOp) (t : TypeId) : Option AV → Option AV → Heap → Option (AV × Heap)
  | some a, some b, H => match binSem P op t a b with
    | some s => s.run H
    | none => none
  | _, _, _ => none
theorem opR_bin (op : BinOp) (t u : TypeId) (x y : Operand) : opR P N e (.binOp op t x y u) H = binR P op t (ev P (tab N e) x) (ev P (tab N e) y) H := by
  simp only [opR_eq, sem]
  cases ev P (tab N e) x <;> cases ev P (tab N e) y <;> rfl

variable {t : TypeId} {k : IntKind} {a b : Int}
theorem binR_add : binR P .add t (some (.int k a)) (some (.int k b)) H = some (.int k (k.wrap (a + b)), H) := by simp [binR, binSem, intOp, Sm.run]
theorem binR_sub : binR P .sub t (some (.int k a)) (some (.int k b)) H = some (.int k (k.wrap (a - b)), H) := by simp [binR, binSem, intOp, Sm.run]
theorem binR_mul : binR P .mul t (some (.int k a)) (some (.int k b)) H = some (.int k (k.wrap (a * b)), H) := by simp [binR, binSem, intOp, Sm.run]
theorem binR_quo (h : b ≠ 0) : binR P .quo t (some (.int k a)) (some (.int k b)) H = some (.int k (k.wrap (a.tdiv b)), H) := by simp [binR, binSem, intOp, Sm.run, h]
theorem binR_rem (h : b ≠ 0) : binR P .rem t (some (.int k a)) (some (.int k b)) H = some (.int k (a.tmod b), H) := by simp [binR, binSem, intOp, Sm.run, h]
theorem binR_and : binR P .and t (some (.int k a)) (some (.int k b)) H = some (.int k (k.wrap (BitVec.ofInt k.bits a &&& BitVec.ofInt k.bits b).toNat), H) := by simp [binR, binSem, intOp, Sm.run]
theorem binR_or : binR P .or t (some (.int k a)) (some (.int k b)) H = some (.int k (k.wrap (BitVec.ofInt k.bits a ||| BitVec.ofInt k.bits b).toNat), H) := by simp [binR, binSem, intOp, Sm.run]
theorem binR_xor : binR P .xor t (some (.int k a)) (some (.int k b)) H = some (.int k (k.wrap (BitVec.ofInt k.bits a ^^^ BitVec.ofInt k.bits b).toNat), H) := by simp [binR, binSem, intOp, Sm.run]
theorem binR_andNot : binR P .andNot t (some (.int k a)) (some (.int k b)) H = some (.int k (k.wrap (BitVec.ofInt k.bits a &&& ~~~(BitVec.ofInt k.bits b)).toNat), H) := by simp [binR, binSem, intOp, Sm.run]
theorem binR_eql : binR P .eql t (some (.int k a)) (some (.int k b)) H = some (.bool (decide (a = b)), H) := by simp only [binR, binSem, intOp, Sm.run, if_true, Option.map_some]; rw [show (a == b) = decide (a = b) from by by_cases h : a = b <;> simp [h]]
theorem binR_neq : binR P .neq t (some (.int k a)) (some (.int k b)) H = some (.bool (decide (a ≠ b)), H) := by simp only [binR, binSem, intOp, Sm.run, if_true, Option.map_some]; rw [show (a != b) = decide (a ≠ b) from by by_cases h : a = b <;> simp [h]]
theorem binR_lss : binR P .lss t (some (.int k a)) (some (.int k b)) H = some (.bool (decide (a < b)), H) := by simp [binR, binSem, intOp, Sm.run]
theorem binR_leq : binR P .leq t (some (.int k a)) (some (.int k b)) H = some (.bool (decide (a ≤ b)), H) := by simp [binR, binSem, intOp, Sm.run]
theorem binR_gtr : binR P .gtr t (some (.int k a)) (some (.int k b)) H = some (.bool (decide (b < a)), H) := by simp [binR, binSem, intOp, Sm.run]
theorem binR_geq : binR P .geq t (some (.int k a)) (some (.int k b)) H = some (.bool (decide (b ≤ a)), H) := by simp [binR, binSem, intOp, Sm.run]
theorem binR_streql {x y : List UInt8} : binR P .eql t (some (.str x)) (some (.str y)) H = some (.bool (x == y), H) := by simp [binR, binSem, strOp, Sm.run]
theorem binR_strneq {x y : List UInt8} : binR P .neq t (some (.str x)) (some (.str y)) H = some (.bool !(x == y), H) := by simp [binR, binSem, strOp, Sm.run]
theorem binR_stradd {x y : List UInt8} (h : x.length + y.length ≤ 2 ^ 62) : binR P .add t (some (.str x)) (some (.str y)) H = some (.str (x ++ y), H) := by simp [binR, binSem, strOp, Sm.run, h]
theorem binR_beql {x y : Bool} (h : P.underlying t = some .bool) : binR P .eql t (some (.bool x)) (some (.bool y)) H = some (.bool (x == y), H) := by simp [binR, binSem, Sm.run, h]
theorem binR_bneq {x y : Bool} (h : P.underlying t = some .bool) : binR P .neq t (some (.bool x)) (some (.bool y)) H = some (.bool !(x == y), H) := by simp [binR, binSem, Sm.run, h]

/-! pointers, slices, maps beside nil -/
def isPtrT (P : Program) (t : TypeId) : Bool := match P.underlying t with | some (.pointer _) => true | _ => false
def isSliceT (P : Program) (t : TypeId) : Bool := match P.underlying t with | some (.slice _) => true | _ => false
def isMapT (P : Program) (t : TypeId) : Bool := match P.underlying t with | some (.map _ _) => true | _ => false
def isStrT (P : Program) (t : TypeId) : Bool := match P.underlying t with | some .string => true | _ => false
def firstT (f : Program → TypeId → Bool) (P : Program) (ts : Array TypeId) : Bool := match ts[0]? with | some t => f P t | none => false

theorem isPtrT_of (h : isPtrT P t = true) : ∃ u, P.underlying t = some (.pointer u) := by unfold isPtrT at h; split at h <;> first | exact ⟨_, by assumption⟩ | cases h
theorem isSliceT_of (h : isSliceT P t = true) : ∃ u, P.underlying t = some (.slice u) := by unfold isSliceT at h; split at h <;> first | exact ⟨_, by assumption⟩ | cases h
theorem isMapT_of (h : isMapT P t = true) : ∃ u v, P.underlying t = some (.map u v) := by unfold isMapT at h; split at h <;> first | exact ⟨_, _, by assumption⟩ | cases h
theorem isStrT_of (h : isStrT P t = true) : P.underlying t = some .string := by unfold isStrT at h; split at h <;> first | assumption | cases h
theorem firstT_of {f : Program → TypeId → Bool} {ts : Array TypeId} (h : firstT f P ts = true) : ∃ t, ts[0]? = some t ∧ f P t = true := by
  unfold firstT at h; split at h
  · exact ⟨_, by assumption, h⟩
  · cases h
theorem binR_nilnil_p (h : isPtrT P t = true) : binR P .eql t (some (.ptr none)) (some (.ptr none)) H = some (.bool true, H) := by obtain ⟨_, h⟩ := isPtrT_of h; simp [binR, binSem, eqSem, Sm.run, h]
theorem binR_nilnil_pn (h : isPtrT P t = true) : binR P .neq t (some (.ptr none)) (some (.ptr none)) H = some (.bool false, H) := by obtain ⟨_, h⟩ := isPtrT_of h; simp [binR, binSem, eqSem, Sm.run, h]
theorem binR_ptrnil {x : Nat × Nat} (h : isPtrT P t = true) : binR P .eql t (some (.ptr (some x))) (some (.ptr none)) H = some (.bool false, H) := by obtain ⟨_, h⟩ := isPtrT_of h; simp [binR, binSem, eqSem, Sm.run, h]
theorem binR_ptrniln {x : Nat × Nat} (h : isPtrT P t = true) : binR P .neq t (some (.ptr (some x))) (some (.ptr none)) H = some (.bool true, H) := by obtain ⟨_, h⟩ := isPtrT_of h; simp [binR, binSem, eqSem, Sm.run, h]
theorem binR_slnil {x : Option (Nat × Nat)} {n c : Nat} {s : Option Nat} {n' c' : Nat} {s' : Option Nat} (h : isSliceT P t = true) : binR P .eql t (some (.slice x n c s)) (some (.slice none n' c' s')) H = some (.bool x.isNone, H) := by
  obtain ⟨_, h⟩ := isSliceT_of h
  cases x <;> simp [binR, binSem, eqSem, Sm.run, h]
theorem binR_slniln {x : Option (Nat × Nat)} {n c : Nat} {s : Option Nat} {n' c' : Nat} {s' : Option Nat} (h : isSliceT P t = true) : binR P .neq t (some (.slice x n c s)) (some (.slice none n' c' s')) H = some (.bool !x.isNone, H) := by
  obtain ⟨_, h⟩ := isSliceT_of h
  cases x <;> simp [binR, binSem, eqSem, Sm.run, h]
theorem binR_mapnil {x : Option Nat} (h : isMapT P t = true) : binR P .eql t (some (.map x)) (some (.map none)) H = some (.bool x.isNone, H) := by
  obtain ⟨_, _, h⟩ := isMapT_of h
  cases x <;> simp [binR, binSem, eqSem, Sm.run, h]
theorem binR_mapniln {x : Option Nat} (h : isMapT P t = true) : binR P .neq t (some (.map x)) (some (.map none)) H = some (.bool !x.isNone, H) := by
  obtain ⟨_, _, h⟩ := isMapT_of h
  cases x <;> simp [binR, binSem, eqSem, Sm.run, h]

def unR (op : UnOp) : Option AV → Heap → Option (AV × Heap)
  | some v, H => match unSem op v with
    | some u => some (u, H)
    | none => none
  | none, _ => none
theorem opR_un (op : UnOp) (t : TypeId) (x : Operand) : opR P N e (.unOp op t x) H = unR op (ev P (tab N e) x) H := by
  simp only [opR_eq, sem]
  cases ev P (tab N e) x with
  | none => rfl
  | some v => simp only [unR]; cases unSem op v <;> rfl
theorem unR_not {x : Bool} : unR .not (some (.bool x)) H = some (.bool !x, H) := rfl

def extractR (i : Nat) : Option AV → Heap → Option (AV × Heap)
  | some (.tuple vs), H => match vs[i]? with
    | some v => some (v, H)
    | none => none
  | _, _ => none
theorem opR_extract (x : Operand) (i : Nat) : opR P N e (.extract x i) H = extractR i (ev P (tab N e) x) H := by
  simp only [opR_eq, sem]
  cases ev P (tab N e) x with
  | none => rfl
  | some v => cases v <;> first | rfl | (rename_i vs; simp only [extractR]; cases vs[i]? <;> rfl)
theorem extractR_eq (i : Nat) (vs : List AV) : extractR i (some (.tuple vs)) H = match vs[i]? with | some v => some (v, H) | none => none := rfl

def nilCheckR : Option AV → Heap → Option (AV × Heap)
  | some (.ptr (some a)), H => some (.ptr (some a), H)
  | some (.func (.func f) xs ys), H => some (.func (.func f) xs ys, H)
  | _, _ => none
theorem opR_nilCheck (x : Operand) : opR P N e (.nilCheck x) H = nilCheckR (ev P (tab N e) x) H := by
  simp only [opR_eq, sem]
  cases ev P (tab N e) x with
  | none => rfl
  | some v =>
    cases v with
    | ptr a => cases a <;> rfl
    | func f xs ys => cases f <;> rfl
    | _ => rfl
theorem nilCheckR_eq (a : Nat × Nat) : nilCheckR (some (.ptr (some a))) H = some (.ptr (some a), H) := rfl

def fieldAddrR (P : Program) (s : TypeId) (f : Nat) : Option AV → Heap → Option (AV × Heap)
  | some (.ptr (some (b, o))), H => match P.underlying s with
    | some (.struct fields) => match fields[f]? with
      | some fd => if (tsz P fd.type).getD 0 = 0 then none else some (.ptr (some (b, o + fd.offset)), H)
      | none => none
    | _ => none
  | _, _ => none
theorem opR_fieldAddr (s : TypeId) (x : Operand) (f : Nat) : opR P N e (.fieldAddr s x f) H = fieldAddrR P s f (ev P (tab N e) x) H := by
  simp only [opR_eq, sem, fieldAddrR]
  cases ev P (tab N e) x with
  | none => cases P.underlying s with
    | none => rfl
    | some d => cases d <;> rfl
  | some v =>
    cases hu : P.underlying s with
    | none => cases v with
      | ptr a => cases a <;> rfl
      | _ => rfl
    | some d =>
      cases v with
      | ptr a =>
        cases a with
        | none => cases d <;> rfl
        | some q =>
          cases d with
          | struct fields =>
            simp only []
            cases fields[f]? with
            | none => rfl
            | some fd =>
              simp only []
              by_cases h0 : (tsz P fd.type).getD 0 = 0
              · simp only [if_pos h0]
              · simp only [if_neg h0, Sm.run]
          | _ => rfl
      | _ => cases d <;> rfl
theorem fieldAddrR_eq {s : TypeId} {f b o : Nat} : fieldAddrR P s f (some (.ptr (some (b, o)))) H = match P.underlying s with
    | some (.struct fields) => match fields[f]? with
      | some fd => if (tsz P fd.type).getD 0 = 0 then none else some (.ptr (some (b, o + fd.offset)), H)
      | none => none
    | _ => none := rfl

def loadR (P : Program) (t : TypeId) : Option AV → Heap → Option (AV × Heap)
  | some (.ptr (some (b, o))), H => match tagg P t, tsz P t, H.get b with
    | some g, some n, some x => match readVar g n o x with
      | some v => some (v, H)
      | none => none
    | _, _, _ => none
  | _, _ => none
theorem opR_load (t : TypeId) (x : Operand) : opR P N e (.load t x) H = loadR P t (ev P (tab N e) x) H := by
  simp only [opR_eq, sem, loadR]
  cases ev P (tab N e) x with
  | none => rfl
  | some v =>
    cases v with
    | ptr a =>
      cases a with
      | none => rfl
      | some q =>
        obtain ⟨b, o⟩ := q
        simp only []
        cases tagg P t with
        | none => rfl
        | some g =>
          cases tsz P t with
          | none => rfl
          | some n =>
            simp only [Sm.run, mapOpt]
            cases H.get b with
            | none => rfl
            | some x => rfl
    | _ => rfl
theorem loadR_eq {b o n : Nat} {g : Bool} {x : AObj} (hg : tagg P t = some g) (hn : tsz P t = some n) (hx : H.get b = some x) : loadR P t (some (.ptr (some (b, o)))) H = match readVar g n o x with | some v => some (v, H) | none => none := by
  simp [loadR, hg, hn, hx]

def storeR (P : Program) (t : TypeId) : Option AV → Option AV → Heap → Option (AV × Heap)
  | some (.ptr (some (b, o))), some v, H => if tsz P t = some v.cells.length then match writeCells H b o v.cells with
      | some H' => some (.undef, H')
      | none => none
    else none
  | _, _, _ => none
theorem opR_store (t : TypeId) (x y : Operand) : opR P N e (.store t x y) H = storeR P t (ev P (tab N e) x) (ev P (tab N e) y) H := by
  simp only [opR_eq, sem, storeR]
  cases ev P (tab N e) x with
  | none => rfl
  | some v =>
    cases v with
    | ptr a =>
      cases a with
      | none => rfl
      | some q =>
        obtain ⟨b, o⟩ := q
        cases ev P (tab N e) y with
        | none => rfl
        | some y =>
          simp only []
          cases tsz P t with
          | none => simp
          | some n =>
            simp only [Option.some.injEq]
            by_cases h : n = y.cells.length
            · subst h; rw [if_pos rfl, if_neg (fun h => h rfl)]; simp only [Sm.run]; cases writeCells H b o y.cells <;> rfl
            · rw [if_neg h, if_pos (fun hh => h hh.symm)]
    | _ => rfl
theorem storeR_eq {b o n : Nat} {v : AV} (hn : tsz P t = some v.cells.length) : storeR P t (some (.ptr (some (b, o)))) (some v) H = match writeCells H b o v.cells with | some H' => some (.undef, H') | none => none := by
  simp [storeR, hn]

theorem opR_alloc (t : TypeId) {z : AV} (h : tzero P t = some z) : opR P N e (.alloc t) H = some (.ptr (some (H.next, 0)), H.push (.cells z.cells t true false)) := by
  simp only [opR_eq, sem, h, Option.map_some, Sm.run]

def boxR (t : TypeId) : Option AV → Heap → Option (AV × Heap)
  | some v, H => some (.ptr (some (H.next, 0)), H.push (.cells v.cells t true false))
  | none, _ => none
theorem opR_box (t : TypeId) (x : Operand) : opR P N e (.box t x) H = boxR t (ev P (tab N e) x) H := by
  simp only [opR_eq, sem]
  cases ev P (tab N e) x <;> rfl
theorem boxR_some (v : AV) : boxR t (some v) H = some (.ptr (some (H.next, 0)), H.push (.cells v.cells t true false)) := rfl

def buildR (P : Program) (t : TypeId) : Option (List (Nat × AV)) → Heap → Option (AV × Heap)
  | some ps, H => match buildA P t ps with
    | some v => some (v, H)
    | none => none
  | none, _ => none
theorem opR_build (t : TypeId) (parts : Array (Nat × Operand)) : opR P N e (.build t parts) H = buildR P t (evParts P (tab N e) parts.toList) H := by
  simp only [opR_eq, sem]
  cases evParts P (tab N e) parts.toList with
  | none => rfl
  | some ps => simp only [buildR]; cases buildA P t ps <;> rfl
theorem buildR_some (ps : List (Nat × AV)) {v : AV} (h : buildA P t ps = some v) : buildR P t (some ps) H = some (v, H) := by simp [buildR, h]

def buildSliceR (P : Program) (t : TypeId) (n : Nat) : Option (List (Nat × AV)) → Heap → Option (AV × Heap)
  | some ps, H => match buildSliceA P t n ps with
    | some s => s.run H
    | none => none
  | none, _ => none
theorem opR_buildSlice (t : TypeId) (n : Nat) (parts : Array (Nat × Operand)) : opR P N e (.buildSlice t n parts) H = buildSliceR P t n (evParts P (tab N e) parts.toList) H := by
  simp only [opR_eq, sem]
  cases evParts P (tab N e) parts.toList <;> rfl
theorem buildSliceR_eq (t : TypeId) (n : Nat) (ps : List (Nat × AV)) : buildSliceR P t n (some ps) H = match buildSliceA P t n ps with | some s => s.run H | none => none := rfl
theorem buildR_eq (ps : List (Nat × AV)) : buildR P t (some ps) H = match buildA P t ps with | some v => some (v, H) | none => none := rfl

def indexAddrR (P : Program) (t : TypeId) : Option AV → Option AV → Heap → Option (AV × Heap)
  | some a, some b, H => match indexAddrSem P t a b with
    | some v => some (v, H)
    | none => none
  | _, _, _ => none
theorem opR_indexAddr (t : TypeId) (x y : Operand) : opR P N e (.indexAddr t x y) H = indexAddrR P t (ev P (tab N e) x) (ev P (tab N e) y) H := by
  simp only [opR_eq, sem]
  cases ev P (tab N e) x with
  | none => cases ev P (tab N e) y <;> rfl
  | some a => cases ev P (tab N e) y with
    | none => rfl
    | some b => simp only [indexAddrR]; cases indexAddrSem P t a b <;> rfl
/-- the cells of an element of a slice's type; of an array's type, and how many elements -/
def elemS (P : Program) (t : TypeId) : Option Nat := match P.underlying t with | some (.slice u) => tsz P u | _ => none
def elemA (P : Program) (t : TypeId) : Option (Nat × Nat) := match P.underlying t with | some (.array n u) => (tsz P u).map fun s => (n, s) | _ => none
theorem indexAddrR_slice {t : TypeId} {b o n c : Nat} {sl : Option Nat} {k : IntKind} {i : Int} : indexAddrR P t (some (.slice (some (b, o)) n c sl)) (some (.int k i)) H =
    match elemS P t with
    | some s => if 0 ≤ i ∧ i < n then some (.ptr (some (b, o + i.toNat * s)), H) else none
    | none => none := by
  unfold indexAddrR indexAddrSem elemS
  cases P.underlying t with
  | none => rfl
  | some d =>
    cases d with
    | slice u =>
      simp only []
      cases tsz P u with
      | none => rfl
      | some s => simp only []; by_cases h : 0 ≤ i ∧ i < n <;> simp [h]
    | _ => rfl
theorem indexAddrR_array {t : TypeId} {b o : Nat} {k : IntKind} {i : Int} : indexAddrR P t (some (.ptr (some (b, o)))) (some (.int k i)) H =
    match elemA P t with
    | some (n, s) => if 0 ≤ i ∧ i < n then some (.ptr (some (b, o + i.toNat * s)), H) else none
    | none => none := by
  unfold indexAddrR indexAddrSem elemA
  cases P.underlying t with
  | none => rfl
  | some d =>
    cases d with
    | array n u =>
      simp only []
      cases tsz P u with
      | none => rfl
      | some s => simp only [Option.map_some]; by_cases h : 0 ≤ i ∧ i < n <;> simp [h]
    | _ => rfl

/-! builtins -/
def builtinR (P : Program) (b : Builtin) (ts : Array TypeId) : Option (List AV) → Heap → Option (AV × Heap)
  | some args, H => match builtinSem P b ts args with
    | some s => s.run H
    | none => none
  | none, _ => none
theorem opR_builtin (b : Builtin) (xs : Array Operand) (ts : Array TypeId) : opR P N e (.call { callee := .builtin b, args := xs, argTypes := ts }) H = builtinR P b ts (mapOpt (ev P (tab N e)) xs.toList) H := by
  simp only [opR_eq, sem, callSem]
  cases mapOpt (ev P (tab N e)) xs.toList <;> rfl
theorem len_slice {ts : Array TypeId} {x : Option (Nat × Nat)} {n c : Nat} {s : Option Nat} (h : firstT isSliceT P ts = true) :
    builtinR P .len ts (some [.slice x n c s]) H = some (.int .i64 n, H) := by
  obtain ⟨t, ht, h⟩ := firstT_of h
  obtain ⟨_, hu⟩ := isSliceT_of h
  simp [builtinR, builtinSem, lenSem, ht, hu, Sm.run]
theorem len_str {ts : Array TypeId} {x : List UInt8} (h : firstT isStrT P ts = true) :
    builtinR P .len ts (some [.str x]) H = some (.int .i64 x.length, H) := by
  obtain ⟨t, ht, h⟩ := firstT_of h
  have hu := isStrT_of h
  simp [builtinR, builtinSem, lenSem, ht, hu, Sm.run]
theorem len_mapnil {ts : Array TypeId} (h : firstT isMapT P ts = true) :
    builtinR P .len ts (some [.map none]) H = some (.int .i64 0, H) := by
  obtain ⟨t, ht, h⟩ := firstT_of h
  obtain ⟨_, _, hu⟩ := isMapT_of h
  simp [builtinR, builtinSem, lenSem, ht, hu, Sm.run]
theorem len_map {ts : Array TypeId} {r : Nat} {es : List (AV × AV)} (h : firstT isMapT P ts = true) (hr : H.get r = some (.map es)) :
    builtinR P .len ts (some [.map (some r)]) H = some (.int .i64 es.length, H) := by
  obtain ⟨t, ht, h⟩ := firstT_of h
  obtain ⟨_, _, hu⟩ := isMapT_of h
  simp [builtinR, builtinSem, lenSem, ht, hu, Sm.run, mapOpt, hr]
theorem min_two {ts : Array TypeId} {k : IntKind} {a b : Int} : builtinR P .min ts (some [.int k a, .int k b]) H = some (.int k (if b < a then b else a), H) := by simp [builtinR, builtinSem, minA, Sm.run]
theorem max_two {ts : Array TypeId} {k : IntKind} {a b : Int} : builtinR P .max ts (some [.int k a, .int k b]) H = some (.int k (if b > a then b else a), H) := by simp [builtinR, builtinSem, maxA, Sm.run]

theorem mapOpt_nil {α β : Type} (f : α → Option β) : mapOpt f [] = some [] := rfl
theorem mapOpt_cons {α β : Type} {f : α → Option β} {x : α} {xs : List α} {y : β} {ys : List β} (h : f x = some y) (hs : mapOpt f xs = some ys) : mapOpt f (x :: xs) = some (y :: ys) := by simp [mapOpt, h, hs]
theorem evParts_nil : evParts P (tab N e) [] = some [] := rfl
theorem evParts_cons {i : Nat} {x : Operand} {r : List (Nat × Operand)} {v : AV} {vs : List (Nat × AV)} (h : ev P (tab N e) x = some v) (hs : evParts P (tab N e) r = some vs) : evParts P (tab N e) ((i, x) :: r) = some ((i, v) :: vs) := by simp [evParts, h, hs]

end
attribute [irreducible] indexAddrR boxR buildSliceR buildR builtinR mvR pickR binR unR extractR nilCheckR fieldAddrR loadR storeR
end Go.Abs

/- Slices that the run has made and goes on appending to. -/
namespace Go.Abs
set_option linter.unusedVariables false

section
variable {P : Program} {N : Nat} {e : Nat → AV} {H : Heap}

theorem loadR_ptr {t : TypeId} {b o : Nat} : loadR P t (some (.ptr (some (b, o)))) H = match tagg P t, tsz P t, H.get b with
    | some g, some n, some x => match readVar g n o x with
      | some v => some (v, H)
      | none => none
    | _, _, _ => none := by unfold loadR; rfl

theorem storeR_ptr {t : TypeId} {b o : Nat} {v : AV} : storeR P t (some (.ptr (some (b, o)))) (some v) H = if tsz P t = some v.cells.length then match writeCells H b o v.cells with
      | some H' => some (.undef, H')
      | none => none
    else none := by unfold storeR; rfl

theorem builtinR_eq {b : Builtin} {ts : Array TypeId} {args : List AV} : builtinR P b ts (some args) H = match builtinSem P b ts args with
    | some s => s.run H
    | none => none := by unfold builtinR; rfl

/-- A slice of the run's own, with these cells, and no room behind them that is known of. -/
def OwnSl (H : Heap) (elem : TypeId) (s : Nat) (v : AV) (n : Nat) (cs : List AV) : Prop :=
  (v = .slice none 0 0 none ∧ n = 0 ∧ cs = []) ∨
  ∃ b sl, v = .slice (some (b, 0)) n n sl ∧ (sl = none ∨ sl = some s) ∧ cs.length = n * s ∧ b < H.next ∧ H.get b = some (.cells cs elem true false)

/-- Its block. -/
def slBlock : AV → Option Nat
  | .slice (some (b, _)) _ _ _ => some b
  | _ => none

/-- Nothing but one block has turned; blocks have come. -/
def ButOne (ob : Option Nat) (H H' : Heap) : Prop := H.next ≤ H'.next ∧ (Wf H → Wf H') ∧ ∀ b, b < H.next → some b ≠ ob → H'.get b = H.get b

theorem OwnSl.len {elem : TypeId} {s n : Nat} {v : AV} {cs : List AV} (h : OwnSl H elem s v n cs) : cs.length = n * s := by
  rcases h with ⟨_, rfl, rfl⟩ | ⟨b, sl, _, _, h, _⟩
  · simp
  · exact h

theorem OwnSl.keep {H' : Heap} {elem : TypeId} {s n : Nat} {v : AV} {cs : List AV} (h : OwnSl H elem s v n cs) (hn : H.next ≤ H'.next) (hg : ∀ b, slBlock v = some b → b < H.next → H'.get b = H.get b) : OwnSl H' elem s v n cs := by
  rcases h with h | ⟨b, sl, rfl, h1, h2, h3, h4⟩
  · exact .inl h
  · exact .inr ⟨b, sl, rfl, h1, h2, by omega, (hg b rfl h3).trans h4⟩

theorem push_wf (o : AObj) (h : Wf H) : Wf (H.push o) := by
  intro b hb
  rw [Heap.next_push] at hb
  rw [Heap.get_push, if_neg (by omega)]
  exact h b (by omega)

theorem srcCells_own {elem : TypeId} {s n m : Nat} {v : AV} {cs : List AV} (h : OwnSl H elem s v n cs) : srcCells H s n v = some cs := by
  rcases h with ⟨rfl, rfl, rfl⟩ | ⟨b, sl, rfl, _, hl, _, hg⟩
  · rfl
  · simp only [srcCells]
    by_cases h0 : n * s = 0
    · rw [if_pos h0]
      congr 1
      exact (List.eq_nil_of_length_eq_zero (by omega)).symm
    · rw [if_neg h0, if_pos (Nat.le_refl _)]
      simp only [cellsAt, hg]
      rw [if_pos (by omega)]
      simp only [List.drop_zero]
      rw [List.take_of_length_le (by omega)]

theorem appendA_own {elem : TypeId} {s bytes n m : Nat} {base : Option (Nat × Nat)} {c : Nat} {ex : Option Nat} {cs new : List AV} (h : OwnSl H elem s (.slice base n c ex) n cs)
    (hl : new.length = m * s) (hone : new.all AV.one = true) (hb : (n + m) * bytes ≤ 2 ^ 46) (hn : n + m ≤ 2 ^ 46) :
    ∃ v' H', appendA elem s bytes base n c ex m new H = some (v', H') ∧ OwnSl H' elem s v' (n + m) (cs ++ new) ∧ ButOne (slBlock (.slice base n c ex)) H H' ∧
      (slBlock v' = slBlock (.slice base n c ex) ∨ slBlock v' = some H.next) := by
  have hgf : ∀ c k, growFits (n + m) c bytes k = true := by
    intro c k
    simp only [growFits, Bool.and_eq_true, Bool.or_eq_true, decide_eq_true_eq]
    exact ⟨by omega, .inl ⟨hb, hn⟩⟩
  unfold appendA
  by_cases hm : m = 0
  · subst hm
    have hnew : new = [] := List.eq_nil_of_length_eq_zero (by simpa using hl)
    subst hnew
    rcases h with ⟨e1, rfl, rfl⟩ | ⟨b, sl, e1, h1, h2, h3, h4⟩
    · injection e1 with e1 _ e2 e3
      subst e1; subst e2; subst e3
      exact ⟨_, H, rfl, .inl ⟨rfl, rfl, rfl⟩, ⟨Nat.le_refl _, id, fun _ _ _ => rfl⟩, .inl rfl⟩
    · injection e1 with e1 _ e2 e3
      subst e1; subst e2; subst e3
      exact ⟨.slice (some (b, 0)) c c ex, H, by simp [writeCells], .inr ⟨b, ex, rfl, h1, by simpa using h2, h3, by simpa using h4⟩, ⟨Nat.le_refl _, id, fun _ _ _ => rfl⟩, .inl rfl⟩
  · have hsrc := srcCells_own (m := m) h
    have hcl := h.len
    have hc : c = n := by
      rcases h with ⟨e1, rfl, _⟩ | ⟨b, sl, e1, _⟩
      · injection e1
      · injection e1
    subst hc
    rw [if_neg (by omega), if_pos (hgf _ _), hsrc]
    have hlen : (cs ++ new).length = (c + m) * s := by rw [List.length_append, hcl, hl, Nat.add_mul]
    rcases h with ⟨e1, rfl, rfl⟩ | ⟨b, sl, e1, h1, h2, h3, h4⟩
    · injection e1 with e1 _ _ e3
      subst e1; subst e3
      refine ⟨_, _, rfl, .inr ⟨H.next, some s, rfl, .inr rfl, hlen, by simp, by rw [Heap.get_push, if_pos rfl]⟩, ⟨by simp, push_wf _, fun b hb _ => by rw [Heap.get_push, if_neg (by omega)]⟩, .inr rfl⟩
    · injection e1 with e1 _ _ e3
      subst e1; subst e3
      rcases h1 with rfl | rfl
      · refine ⟨_, _, rfl, .inr ⟨H.next, some s, rfl, .inr rfl, hlen, by simp, by rw [Heap.get_push, if_pos rfl]⟩, ⟨by simp, push_wf _, fun b hb _ => by rw [Heap.get_push, if_neg (by omega)]⟩, .inr rfl⟩
      · simp only [h4]
        rw [if_pos ⟨trivial, by omega, hone⟩]
        refine ⟨_, _, rfl, .inr ⟨H.next, some s, rfl, .inr rfl, hlen, by simp, ?_⟩, ⟨by simp, ?_, ?_⟩, .inr rfl⟩
        · rw [Heap.get_push, Heap.next_set, if_pos rfl]
        · intro hw
          apply push_wf
          intro x hx
          rw [Heap.next_set] at hx
          rw [Heap.get_set, if_neg (by omega)]
          exact hw x hx
        · intro x hx hne
          rw [Heap.get_push, Heap.next_set, if_neg (by omega), Heap.get_set, if_neg (fun e => hne (by rw [e]; rfl))]

/-- Which append it is. -/
theorem append_eq {ts : Array TypeId} {t elem : TypeId} {s bytes : Nat} {z : AV} {t1 : TypeId} {d1 : TypeDesc} {base : Option (Nat × Nat)} {n c m : Nat} {ex : Option Nat} {x : AV} {new : List AV}
    (ht : ts[0]? = some t) (hu : P.underlying t = some (.slice elem)) (hs : tsz P elem = some s) (hb : tbytes P elem = some bytes) (hz : tzero P elem = some z) (hzl : z.cells.length = s)
    (hc : isCount P ts[1]? = false) (ht1 : ts[1]? = some t1) (hu1 : P.underlying t1 = some d1) (hx : srcLen x = some m) (hsrc : srcCells H s m x = some new) (hl : new.length = m * s) :
    builtinR P .append ts (some [.slice base n c ex, x]) H = appendA elem s bytes base n c ex m new H := by
  rw [builtinR_eq]
  rw [ht1] at hc
  simp only [builtinSem, appendSem, ht, hu, hs, hb, hz, hzl, ne_eq, not_true, if_false, hc, ht1, hu1, hx, Sm.run, hsrc, hl, if_true, Bool.false_eq_true]

end
end Go.Abs

/- Regions that draw their order, walked: step by step in the order in which the abstract machine runs them. -/
namespace Go.Abs
set_option linter.unusedVariables false

section
variable {P : Program} {prims : Prims} {N : Nat}

theorem eqSem_light {t : TypeId} {x y : AV} {neg : Bool} {k : Heap → Option (AV × Heap)} : eqSem P t x y neg ≠ some (.heavy k) := by
  intro h
  unfold eqSem at h
  (repeat' split at h) <;> simp at h

theorem binSem_light {op : BinOp} {t : TypeId} {x y : AV} {k : Heap → Option (AV × Heap)} : binSem P op t x y ≠ some (.heavy k) := by
  intro h
  unfold binSem at h
  (repeat' split at h) <;> first | (exact eqSem_light h) | (simp at h)

theorem convSem_light {src dst : TypeId} {x : AV} {k : Heap → Option (AV × Heap)} (hh : isHeavy P (.convert src dst (.const (.bool true))) = false) : convSem P src dst x ≠ some (.heavy k) := by
  intro h
  unfold convSem at h
  simp only [isHeavy] at hh
  (repeat' split at h) <;> first | (simp at h; done) | (simp_all; done)

theorem lookupSem_light {t : TypeId} {x y : AV} {ok : Bool} {k : Heap → Option (AV × Heap)} : lookupSem P t x y ok ≠ some (.heavy k) := by
  intro h
  unfold lookupSem at h
  (repeat' split at h) <;> simp at h

theorem makeSliceSem_light {t : TypeId} {x y : AV} {k : Heap → Option (AV × Heap)} : makeSliceSem P t x y ≠ some (.heavy k) := by
  intro h
  unfold makeSliceSem at h
  (repeat' split at h) <;> simp at h

theorem buildSliceA_light {t : TypeId} {n : Nat} {ps : List (Nat × AV)} {k : Heap → Option (AV × Heap)} : buildSliceA P t n ps ≠ some (.heavy k) := by
  intro h
  unfold buildSliceA at h
  (repeat' split at h) <;> simp at h

theorem lenSem_light {ts : Array TypeId} {x : AV} {k : Heap → Option (AV × Heap)} : lenSem P ts x ≠ some (.heavy k) := by
  intro h
  unfold lenSem at h
  (repeat' split at h) <;> simp at h

theorem capSem_light {ts : Array TypeId} {x : AV} {k : Heap → Option (AV × Heap)} : capSem P ts x ≠ some (.heavy k) := by
  intro h
  unfold capSem at h
  (repeat' split at h) <;> simp at h

theorem mapOpt_get {α β : Type} {f : α → Option β} : ∀ {l : List α} {m : List β}, mapOpt f l = some m → ∀ (i : Nat) (x : α), l[i]? = some x → ∃ y, f x = some y ∧ m[i]? = some y
  | [], m, h, i, x, hx => by simp at hx
  | a :: l, m, h, i, x, hx => by
    simp only [mapOpt] at h
    cases ha : f a with
    | none => simp [ha] at h
    | some y =>
      cases hl : mapOpt f l with
      | none => simp [ha, hl] at h
      | some ys =>
        simp [ha, hl] at h
        subst h
        cases i with
        | zero => simp at hx; subst hx; exact ⟨y, ha, by simp⟩
        | succ i => simpa using mapOpt_get hl i x (by simpa using hx)

theorem sem_light {call : CallFn} {T : List AV} {op : Op} (hh : isHeavy P op = false) {k : Heap → Option (AV × Heap)} : sem P call T op ≠ some (.heavy k) := by
  intro h
  cases op
  case store => simp [isHeavy] at hh
  case mapUpdate => simp [isHeavy] at hh
  case insert => simp [isHeavy] at hh
  case next => simp [isHeavy] at hh
  case call c =>
    simp only [sem, callSem] at h
    split at h
    · cases h
    · split at h
      · rename_i b hb
        simp only [isHeavy, hb] at hh
        unfold builtinSem at h
        split at h <;> first | (simp at hh; done) | (exact lenSem_light h) | (exact capSem_light h) | (simp at h; done)
      · rename_i f hf
        simp [isHeavy, hf] at hh
      · cases h
  case convert src dst x =>
    simp only [sem] at h
    split at h
    · exact convSem_light (by simpa [isHeavy] using hh) h
    · cases h
  case binOp => simp only [sem] at h; (repeat' split at h) <;> first | (exact binSem_light h) | (simp at h)
  case lookup => simp only [sem] at h; (repeat' split at h) <;> first | (exact lookupSem_light h) | (simp at h)
  case makeSlice => simp only [sem] at h; (repeat' split at h) <;> first | (exact makeSliceSem_light h) | (simp at h)
  case buildSlice => simp only [sem] at h; (repeat' split at h) <;> first | (exact buildSliceA_light h) | (simp at h)
  all_goals (simp only [sem] at h; first | (cases h; done) | ((repeat' split at h) <;> simp at h))

/-- How many heavy operations must stand ahead of one. -/
def loOf (P : Program) (ops : Array Oper) (i : Nat) : Nat := ((heavies P ops.toList 0).filter fun h => ((befores ops).getD i 0).testBit h).length

def DW (P : Program) (prims : Prims) (N : Nat) (ops : Array Oper) (n0 : Nat) (is : List Nat) (e : Nat → AV) (H : Heap) (snaps : List Heap) (K : (Nat → AV) → Heap → Prop) : Prop :=
  ∃ n e' H' sn, drun P (acall P prims n) ops (befores ops) (heavies P ops.toList 0) n0 is { T := tab N e, H := H, snaps := snaps } = some { T := tab N e', H := H', snaps := sn } ∧ K e' H'

theorem DW.nil {ops : Array Oper} {n0 : Nat} {e : Nat → AV} {H : Heap} {snaps : List Heap} {K : (Nat → AV) → Heap → Prop} (h : K e H) : DW P prims N ops n0 [] e H snaps K :=
  ⟨0, e, H, snaps, rfl, h⟩

theorem DW.step {ops : Array Oper} {n0 i : Nat} {is : List Nat} {e e1 : Nat → AV} {H H1 : Heap} {snaps sn1 : List Heap} {K : (Nat → AV) → Heap → Prop} {n : Nat}
    (hs : dstep P (acall P prims n) ops (befores ops) (heavies P ops.toList 0) n0 i { T := tab N e, H := H, snaps := snaps } = some { T := tab N e1, H := H1, snaps := sn1 })
    (h : DW P prims N ops n0 is e1 H1 sn1 K) : DW P prims N ops n0 (i :: is) e H snaps K := by
  obtain ⟨m, e', H', sn, hr, k⟩ := h
  refine ⟨max n m, e', H', sn, ?_, k⟩
  unfold drun
  rw [dstep_le (acall_le (Nat.le_max_left n m)) hs]
  exact drun_le (acall_le (Nat.le_max_right n m)) hr

/-- What a read of the region may look at. -/
def Calm (H : Heap) (n0 : Nat) (snaps : List Heap) (m : Nat) (b : Nat) : Prop := ∃ o, H.get b = some o ∧ ∀ S ∈ snaps.take m, S.get b = some o

theorem light_of_opR {ops : Array Oper} {n0 i : Nat} {o : Oper} {e : Nat → AV} {H H' : Heap} {snaps : List Heap} {v : AV} {call : CallFn} (hcall : CLe noCall call) (hh : isHeavy P o.op = false) (hw : wantedA ops (tab N e) o = true) (hwf : Wf H)
    (hr : opR P N e o.op H = some (v, H')) (hm : snaps.length - loOf P ops i ≤ 1 ∨ ∀ bs k, sem P noCall (tab N e) o.op = some (.read bs k) → ∀ b ∈ bs, Calm H n0 snaps (snaps.length - loOf P ops i) b) :
    ∃ x, lightRes P call ops (befores ops) (heavies P ops.toList 0) n0 i o { T := tab N e, H := H, snaps := snaps } = some (v, x) ∧ pushO H x = H' := by
  have hsem : ∀ s, sem P noCall (tab N e) o.op = some s → sem P call (tab N e) o.op = some s := by
    intro s hs
    rcases sem_le (P := P) hcall (tab N e) o.op with h | ⟨k, l, h1, h2, _⟩
    · rw [← h]; exact hs
    · exact absurd h1 (sem_light hh)
  rw [opR_eq] at hr
  unfold lightRes
  rw [if_pos hw]
  cases hs : sem P noCall (tab N e) o.op with
  | none => rw [hs] at hr; cases hr
  | some s =>
    rw [hs] at hr
    simp only [hsem s hs]
    cases s with
    | pure u => simp only [Sm.run, Option.some.injEq, Prod.mk.injEq] at hr; obtain ⟨rfl, rfl⟩ := hr; exact ⟨none, rfl, rfl⟩
    | alloc o mk => simp only [Sm.run, Option.some.injEq, Prod.mk.injEq] at hr; obtain ⟨rfl, rfl⟩ := hr; exact ⟨some o, rfl, rfl⟩
    | heavy k => exact absurd hs (sem_light hh)
    | read bs k =>
      simp only [Sm.run] at hr
      cases hos : mapOpt H.get bs with
      | none => rw [hos] at hr; cases hr
      | some os =>
        rw [hos] at hr
        simp only [] at hr
        cases hk : k os with
        | none => rw [hk] at hr; cases hr
        | some u =>
          rw [hk] at hr
          simp only [Option.some.injEq, Prod.mk.injEq] at hr
          obtain ⟨rfl, rfl⟩ := hr
          refine ⟨none, ?_, rfl⟩
          have hlt : bs.all (fun x => decide (x < H.next)) = true := by
            rw [List.all_eq_true]
            intro x hx
            rcases Nat.lt_or_ge x H.next with h | h
            · simpa using h
            · exfalso
              obtain ⟨j, hj⟩ := List.getElem?_of_mem hx
              obtain ⟨_, h2⟩ := mapOpt_get hos j x hj
              rw [hwf x h] at h2
              cases h2.1
          have hcond : (bs.all (fun x => decide (x < H.next)) && (decide (snaps.length - loOf P ops i ≤ 1) || bs.all (sameIn H n0 (snaps.take (snaps.length - loOf P ops i))))) = true := by
            rw [hlt, Bool.true_and, Bool.or_eq_true]
            rcases hm with hm | hm
            · left; simpa using hm
            · right
              rw [List.all_eq_true]
              intro x hx
              obtain ⟨o', h2, h3⟩ := hm bs k hs x hx
              unfold sameIn
              rw [h2]
              simp only []
              rw [List.all_eq_true]
              intro S hS
              rw [h3 S hS]
              exact AObj.beq_refl o'
          unfold loOf at hcond
          simp only [hcond, if_true, hos, hk]

/-- An operation's parts. -/
def opAt (ops : Array Oper) (i : Nat) : Option (Option Tmp × Op × Option (Nat × Bool)) :=
  match ops[i]? with
  | some o => some (o.dst, o.op, o.guard)
  | none => none

theorem opAt_some {ops : Array Oper} {i : Nat} {d : Option Tmp} {op : Op} {g : Option (Nat × Bool)} (h : opAt ops i = some (d, op, g)) : ∃ o, ops[i]? = some o ∧ o.dst = d ∧ o.op = op ∧ o.guard = g := by
  unfold opAt at h
  split at h
  · rename_i o ho
    simp only [Option.some.injEq, Prod.mk.injEq] at h
    exact ⟨o, ho, h.1, h.2.1, h.2.2⟩
  · cases h

/-- A guard that is met, or none. -/
def Met (ops : Array Oper) (e : Nat → AV) (N : Nat) : Option (Nat × Bool) → Prop
  | none => True
  | some (j, want) => ∃ d', yDst ops j = some d' ∧ d' < N ∧ e d' = .bool want

def Unmet (ops : Array Oper) (e : Nat → AV) (N : Nat) : Option (Nat × Bool) → Prop
  | none => False
  | some (j, want) => ∃ d', yDst ops j = some d' ∧ d' < N ∧ e d' = .bool !want

theorem Met.wanted {ops : Array Oper} {e : Nat → AV} {o : Oper} (h : Met ops e N o.guard) : wantedA ops (tab N e) o = true := by
  cases hg : o.guard with
  | none => simp [wantedA, hg]
  | some p =>
    obtain ⟨j, want⟩ := p
    rw [hg] at h
    obtain ⟨d', h1, h2, h3⟩ := h
    rw [wanted_guard hg h1 h2 h3]
    simp

theorem Unmet.unwanted {ops : Array Oper} {e : Nat → AV} {o : Oper} (h : Unmet ops e N o.guard) : wantedA ops (tab N e) o = false := by
  cases hg : o.guard with
  | none => rw [hg] at h; exact h.elim
  | some p =>
    obtain ⟨j, want⟩ := p
    rw [hg] at h
    obtain ⟨d', h1, h2, h3⟩ := h
    rw [wanted_guard hg h1 h2 h3]
    simp

section
variable {ops : Array Oper} {n0 i : Nat} {is : List Nat} {e : Nat → AV} {H H' : Heap} {snaps : List Heap} {K : (Nat → AV) → Heap → Prop} {d : Option Tmp} {op : Op} {g : Option (Nat × Bool)} {v : AV}

theorem DW.light (ho : opAt ops i = some (d, op, g)) (hh : isHeavy P op = false) (hg : Met ops e N g) (hwf : Wf H) (hr : opR P N e op H = some (v, H'))
    (hm : snaps.length - loOf P ops i ≤ 1 ∨ ∀ bs k, sem P noCall (tab N e) op = some (.read bs k) → ∀ b ∈ bs, Calm H n0 snaps (snaps.length - loOf P ops i) b)
    (h : DW P prims N ops n0 is (setEO e d v) H' snaps K) : DW P prims N ops n0 (i :: is) e H snaps K := by
  obtain ⟨o, h1, rfl, rfl, rfl⟩ := opAt_some ho
  obtain ⟨x, h2, h3⟩ := light_of_opR (call := acall P prims 0) (noCall_le _) hh hg.wanted hwf hr hm
  refine DW.step (n := 0) (e1 := setEO e o.dst v) (H1 := H') (sn1 := snaps) ?_ h
  unfold dstep
  simp only [h1, hh, Bool.false_eq_true, if_false, h2, put_tab, h3]

theorem DW.heavy {n : Nat} (ho : opAt ops i = some (d, op, g)) (hh : isHeavy P op = true) (hg : Met ops e N g) (hr : ∀ o : Oper, o.op = op → runOp P (acall P prims n) (tab N e) o H = some (v, H'))
    (h : DW P prims N ops n0 is (setEO e d v) H' (H' :: snaps) K) : DW P prims N ops n0 (i :: is) e H snaps K := by
  obtain ⟨o, h1, rfl, rfl, rfl⟩ := opAt_some ho
  refine DW.step (n := n) (e1 := setEO e o.dst v) (H1 := H') (sn1 := H' :: snaps) ?_ h
  unfold dstep
  simp only [h1, hh, if_true, hg.wanted, hr o rfl, put_tab]

theorem DW.hop (ho : opAt ops i = some (d, op, g)) (hh : isHeavy P op = true) (hg : Met ops e N g) (hr : opR P N e op H = some (v, H'))
    (h : DW P prims N ops n0 is (setEO e d v) H' (H' :: snaps) K) : DW P prims N ops n0 (i :: is) e H snaps K := by
  refine DW.heavy (n := 0) ho hh hg (fun o h1 => ?_) h
  subst h1
  exact runOp_le (noCall_le _) (by rw [opR_eq] at hr; exact hr)

theorem DW.call {xs : Array Operand} {ts : Array TypeId} {f : FuncId} {args : List AV} (ho : opAt ops i = some (d, .call { callee := .value (.func f), args := xs, argTypes := ts }, g)) (hg : Met ops e N g)
    (ha : mapOpt (ev P (tab N e)) xs.toList = some args)
    (h : CallsA P prims f args H fun v H' => DW P prims N ops n0 is (setEO e d v) H' (H' :: snaps) K) : DW P prims N ops n0 (i :: is) e H snaps K := by
  unfold CallsA at h
  obtain ⟨n, v, H', hr, k⟩ := h
  refine DW.heavy (n := n) ho rfl hg (fun o h1 => ?_) k
  simp only [runOp, h1, sem, callSem, ha, ev, Sm.run, List.nil_append, List.append_nil, hr]

theorem DW.skipL (ho : opAt ops i = some (d, op, g)) (hh : isHeavy P op = false) (hg : Unmet ops e N g)
    (h : DW P prims N ops n0 is (setEO e d .undef) H snaps K) : DW P prims N ops n0 (i :: is) e H snaps K := by
  obtain ⟨o, h1, rfl, rfl, rfl⟩ := opAt_some ho
  refine DW.step (n := 0) (e1 := setEO e o.dst .undef) (H1 := H) (sn1 := snaps) ?_ h
  unfold dstep lightRes
  simp only [h1, hh, Bool.false_eq_true, if_false, hg.unwanted, put_tab, pushO]

theorem DW.skipH (ho : opAt ops i = some (d, op, g)) (hh : isHeavy P op = true) (hg : Unmet ops e N g)
    (h : DW P prims N ops n0 is (setEO e d .undef) H (H :: snaps) K) : DW P prims N ops n0 (i :: is) e H snaps K := by
  obtain ⟨o, h1, rfl, rfl, rfl⟩ := opAt_some ho
  refine DW.step (n := 0) (e1 := setEO e o.dst .undef) (H1 := H) (sn1 := H :: snaps) ?_ h
  unfold dstep
  simp only [h1, hh, if_true, hg.unwanted, Bool.false_eq_true, if_false, put_tab]

/-- The order that is walked is the one in which it is run, and nobody can tell it from another. -/
def dOk (P : Program) (ops : Array Oper) (c : List Nat) : Bool := canonGo (befores ops) ops.size (heavies P ops.toList 0) 0 == c && drawOk P ops (befores ops) c

theorem Wp.regionD {id : Nat} {Q : Post} (c : List Nat) (hc : dOk P ops c = true) (h : DW P prims N ops H.next c e H [H] (Q .normal)) : Wp P prims N (.region id ops true) e H Q := by
  unfold dOk at hc
  rw [Bool.and_eq_true, beq_iff_eq] at hc
  obtain ⟨h1, h2⟩ := hc
  unfold DW at h
  obtain ⟨n, e', H', sn, hr, k⟩ := h
  unfold Wp
  refine ⟨n, .normal, e', H', ?_, k⟩
  simp only [runCode, runRegion, if_true, h1, drawRun, h2, hr]

end
end
attribute [irreducible] DW
end Go.Abs

/- Rules for maps, slicing, conversions, copying. -/
namespace Go.Abs
set_option linter.unusedVariables false

section
variable {P : Program} {N : Nat} {e : Nat → AV} {H : Heap}

/-! maps -/
def keyT (P : Program) (t : TypeId) : Option (TypeId × TypeId) := match P.underlying t with | some (.map k u) => some (k, u) | _ => none

def lookupR (P : Program) (t : TypeId) (ok : Bool) : Option AV → Option AV → Heap → Option (AV × Heap)
  | some a, some b, H => match lookupSem P t a b ok with
    | some s => s.run H
    | none => none
  | _, _, _ => none
theorem opR_lookup (t : TypeId) (x y : Operand) (ok : Bool) : opR P N e (.lookup t x y ok) H = lookupR P t ok (ev P (tab N e) x) (ev P (tab N e) y) H := by
  simp only [opR_eq, sem]
  cases ev P (tab N e) x with
  | none => cases ev P (tab N e) y <;> rfl
  | some a => cases ev P (tab N e) y <;> rfl

instance : DecidableEq AV := fun a b => if h : AV.beq a b = true then isTrue (AV.eq_of_beq _ _ h) else isFalse (fun e => h (e ▸ AV.beq_refl a))

/-- A map's entry. -/
def getA (k : AV) : List (AV × AV) → Option AV
  | [] => none
  | (x, v) :: r => if x = k then some v else getA k r

/-- The place of a key. -/
def idxA (k : AV) : List (AV × AV) → Nat → Option Nat
  | [], _ => none
  | (x, _) :: r, i => if x = k then some i else idxA k r (i + 1)

/-- All keys are of one plain kind. -/
def intKeys (k : IntKind) (es : List (AV × AV)) : Prop := ∀ p ∈ es, ∃ n, p.1 = .int k n
def strKeys (es : List (AV × AV)) : Prop := ∀ p ∈ es, ∃ s, p.1 = .str s

theorem findA_int {k : IntKind} {n : Int} : ∀ {es : List (AV × AV)} {i : Nat}, intKeys k es → findA (.int k n) es i = some (match idxA (.int k n) es i with | some j => (getA (.int k n) es).map fun v => (j, v) | none => none)
  | [], i, _ => rfl
  | (x, v) :: r, i, h => by
    obtain ⟨m, hm⟩ := h (x, v) (by simp)
    simp only [] at hm
    subst hm
    have ih := findA_int (n := n) (es := r) (i := i + 1) (fun p hp => h p (by simp [hp]))
    by_cases e : m = n
    · subst e
      simp [findA, keyEq, idxA, getA]
    · have e1 : ¬ (AV.int k m = AV.int k n) := by intro h; injection h with _ h; exact e h
      have e2 : (n == m) = false := by simp; exact fun h => e h.symm
      simp only [findA, keyEq, if_true, e2, idxA, getA, if_neg e1]
      exact ih

theorem findA_str {n : List UInt8} : ∀ {es : List (AV × AV)} {i : Nat}, strKeys es → findA (.str n) es i = some (match idxA (.str n) es i with | some j => (getA (.str n) es).map fun v => (j, v) | none => none)
  | [], i, _ => rfl
  | (x, v) :: r, i, h => by
    obtain ⟨m, hm⟩ := h (x, v) (by simp)
    simp only [] at hm
    subst hm
    have ih := findA_str (n := n) (es := r) (i := i + 1) (fun p hp => h p (by simp [hp]))
    by_cases e : m = n
    · subst e
      simp [findA, keyEq, idxA, getA]
    · have e1 : ¬ (AV.str m = AV.str n) := by intro h; injection h with h; exact e h
      have e2 : (n == m) = false := by simp; exact fun h => e h.symm
      simp only [findA, keyEq, e2, idxA, getA, if_neg e1]
      exact ih

theorem idxA_none {k : AV} : ∀ {es : List (AV × AV)} {i : Nat}, idxA k es i = none ↔ getA k es = none
  | [], i => by simp [idxA, getA]
  | (x, v) :: r, i => by
    by_cases e : x = k
    · simp [idxA, getA, e]
    · simp only [idxA, getA, if_neg e]
      exact idxA_none

theorem idxA_some {k : AV} : ∀ {es : List (AV × AV)} {i j : Nat}, idxA k es i = some j → i ≤ j ∧ ∃ v, es[j - i]? = some (k, v) ∧ getA k es = some v
  | [], i, j, h => by simp [idxA] at h
  | (x, v) :: r, i, j, h => by
    by_cases e : x = k
    · subst e
      simp [idxA] at h
      subst h
      exact ⟨Nat.le_refl _, v, by simp, by simp [getA]⟩
    · simp only [idxA, if_neg e] at h
      obtain ⟨h1, u, h2, h3⟩ := idxA_some h
      refine ⟨by omega, u, ?_, by simp only [getA, if_neg e]; exact h3⟩
      have : j - i = (j - (i + 1)) + 1 := by omega
      rw [this]
      simpa using h2

/-- What a map says, entry by entry. -/
def setA (k v : AV) : List (AV × AV) → List (AV × AV)
  | [] => [(k, v)]
  | (x, u) :: r => if x = k then (k, v) :: r else (x, u) :: setA k v r

def delA (k : AV) : List (AV × AV) → List (AV × AV)
  | [] => []
  | (x, u) :: r => if x = k then r else (x, u) :: delA k r

theorem setA_none {k v : AV} : ∀ {es : List (AV × AV)}, getA k es = none → setA k v es = es ++ [(k, v)]
  | [], _ => rfl
  | (x, u) :: r, h => by
    by_cases e : x = k
    · simp [getA, e] at h
    · simp only [getA, if_neg e] at h
      simp only [setA, if_neg e, List.cons_append]
      rw [setA_none h]

theorem setA_some {k v : AV} : ∀ {es : List (AV × AV)} {i j : Nat}, idxA k es i = some j → setA k v es = es.set (j - i) (k, v)
  | [], i, j, h => by simp [idxA] at h
  | (x, u) :: r, i, j, h => by
    by_cases e : x = k
    · simp [idxA, e] at h
      subst h
      simp [setA, e]
    · simp only [idxA, if_neg e] at h
      have := (idxA_some h).1
      have e2 : j - i = (j - (i + 1)) + 1 := by omega
      rw [e2]
      simp only [setA, if_neg e, List.set_cons_succ]
      rw [setA_some h]

theorem delA_none {k : AV} : ∀ {es : List (AV × AV)}, getA k es = none → delA k es = es
  | [], _ => rfl
  | (x, u) :: r, h => by
    by_cases e : x = k
    · simp [getA, e] at h
    · simp only [getA, if_neg e] at h
      simp only [delA, if_neg e]
      rw [delA_none h]

theorem delA_some {k : AV} : ∀ {es : List (AV × AV)} {i j : Nat}, idxA k es i = some j → delA k es = es.eraseIdx (j - i)
  | [], i, j, h => by simp [idxA] at h
  | (x, u) :: r, i, j, h => by
    by_cases e : x = k
    · simp [idxA, e] at h
      subst h
      simp [delA, e]
    · simp only [idxA, if_neg e] at h
      have := (idxA_some h).1
      have e2 : j - i = (j - (i + 1)) + 1 := by omega
      rw [e2]
      simp only [delA, if_neg e, List.eraseIdx_cons_succ]
      rw [delA_some h]

theorem getA_setA {k v x : AV} : ∀ {es : List (AV × AV)}, getA x (setA k v es) = if k = x then some v else getA x es
  | [] => by simp [setA, getA]
  | (y, u) :: r => by
    by_cases e : y = k
    · subst e
      by_cases e2 : y = x
      · simp [setA, getA, e2]
      · simp [setA, getA, e2]
    · simp only [setA, if_neg e, getA]
      rw [getA_setA]
      by_cases e2 : y = x
      · subst e2
        rw [if_pos rfl, if_neg (fun h => e h.symm), if_pos rfl]
      · rw [if_neg e2, if_neg e2]

/-- No key stands twice. -/
def keysOnce : List (AV × AV) → Prop
  | [] => True
  | (x, _) :: r => getA x r = none ∧ keysOnce r

theorem getA_delA {k x : AV} : ∀ {es : List (AV × AV)}, keysOnce es → getA x (delA k es) = if k = x then none else getA x es
  | [], _ => by simp [delA, getA]
  | (y, u) :: r, h => by
    by_cases e : y = k
    · subst e
      simp only [delA, if_true, getA]
      by_cases e2 : y = x
      · subst e2; simp [h.1]
      · simp [e2]
    · simp only [delA, if_neg e, getA]
      rw [getA_delA h.2]
      by_cases e2 : y = x
      · subst e2
        rw [if_pos rfl, if_neg (fun h => e h.symm), if_pos rfl]
      · rw [if_neg e2, if_neg e2]

theorem keysOnce_setA {k v : AV} : ∀ {es : List (AV × AV)}, keysOnce es → keysOnce (setA k v es)
  | [], _ => by simp [setA, keysOnce, getA]
  | (y, u) :: r, h => by
    by_cases e : y = k
    · subst e
      simp only [setA, if_true, keysOnce]
      exact h
    · simp only [setA, if_neg e, keysOnce]
      refine ⟨?_, keysOnce_setA h.2⟩
      rw [getA_setA, if_neg (fun h => e h.symm)]
      exact h.1

theorem keysOnce_delA {k : AV} : ∀ {es : List (AV × AV)}, keysOnce es → keysOnce (delA k es)
  | [], _ => trivial
  | (y, u) :: r, h => by
    by_cases e : y = k
    · simp only [delA, if_pos e]
      exact h.2
    · simp only [delA, if_neg e, keysOnce]
      refine ⟨?_, keysOnce_delA h.2⟩
      rw [getA_delA h.2]
      split
      · rfl
      · exact h.1

theorem length_setA {k v : AV} : ∀ {es : List (AV × AV)}, (setA k v es).length = if getA k es = none then es.length + 1 else es.length
  | [] => rfl
  | (y, u) :: r => by
    by_cases e : y = k
    · simp [setA, getA, e]
    · simp only [setA, if_neg e, getA, List.length_cons]
      rw [length_setA]
      split <;> rfl

theorem length_delA {k : AV} : ∀ {es : List (AV × AV)}, (delA k es).length = if getA k es = none then es.length else es.length - 1
  | [] => rfl
  | (y, u) :: r => by
    by_cases e : y = k
    · simp [delA, getA, e]
    · simp only [delA, if_neg e, getA, List.length_cons]
      rw [length_delA]
      cases h : getA k r with
      | none => simp
      | some v =>
        simp
        cases r with
        | nil => simp [getA] at h
        | cons _ _ => simp

theorem mem_setA {k v : AV} {p : AV × AV} : ∀ {es : List (AV × AV)}, p ∈ setA k v es → p = (k, v) ∨ p ∈ es
  | [], h => by simp [setA] at h; exact .inl h
  | (y, u) :: r, h => by
    by_cases e : y = k
    · simp only [setA, if_pos e, List.mem_cons] at h ⊢
      rcases h with h | h
      · exact .inl h
      · exact .inr (.inr h)
    · simp only [setA, if_neg e, List.mem_cons] at h ⊢
      rcases h with h | h
      · exact .inr (.inl h)
      · rcases mem_setA h with h | h
        · exact .inl h
        · exact .inr (.inr h)

theorem mem_delA {k : AV} {p : AV × AV} : ∀ {es : List (AV × AV)}, p ∈ delA k es → p ∈ es
  | [], h => h
  | (y, u) :: r, h => by
    by_cases e : y = k
    · simp only [delA, if_pos e] at h
      exact List.mem_cons_of_mem _ h
    · simp only [delA, if_neg e, List.mem_cons] at h ⊢
      rcases h with h | h
      · exact .inl h
      · exact .inr (mem_delA h)

theorem findA_int' {k : IntKind} {n : Int} {es : List (AV × AV)} (h : intKeys k es) :
    (getA (.int k n) es = none ∧ findA (.int k n) es 0 = some none) ∨ ∃ j v, getA (.int k n) es = some v ∧ findA (.int k n) es 0 = some (some (j, v)) ∧ idxA (.int k n) es 0 = some j := by
  rw [findA_int h]
  cases hi : idxA (.int k n) es 0 with
  | none => exact .inl ⟨idxA_none.1 hi, rfl⟩
  | some j =>
    obtain ⟨_, v, _, hv⟩ := idxA_some hi
    exact .inr ⟨j, v, hv, by simp [hv], rfl⟩

theorem findA_str' {n : List UInt8} {es : List (AV × AV)} (h : strKeys es) :
    (getA (.str n) es = none ∧ findA (.str n) es 0 = some none) ∨ ∃ j v, getA (.str n) es = some v ∧ findA (.str n) es 0 = some (some (j, v)) ∧ idxA (.str n) es 0 = some j := by
  rw [findA_str h]
  cases hi : idxA (.str n) es 0 with
  | none => exact .inl ⟨idxA_none.1 hi, rfl⟩
  | some j =>
    obtain ⟨_, v, _, hv⟩ := idxA_some hi
    exact .inr ⟨j, v, hv, by simp [hv], rfl⟩

/-- A map whose keys are of the kind of a key. -/
def keysLike (k : AV) (es : List (AV × AV)) : Prop := (∃ i n, k = .int i n ∧ intKeys i es) ∨ (∃ s, k = .str s ∧ strKeys es)

theorem findA_like {k : AV} {es : List (AV × AV)} (h : keysLike k es) :
    (getA k es = none ∧ findA k es 0 = some none) ∨ ∃ j v, getA k es = some v ∧ findA k es 0 = some (some (j, v)) ∧ idxA k es 0 = some j := by
  rcases h with ⟨i, n, rfl, h⟩ | ⟨s, rfl, h⟩
  · exact findA_int' h
  · exact findA_str' h

theorem lookup_one {t kt et : TypeId} {z k : AV} {r : Nat} {es : List (AV × AV)} (hu : keyT P t = some (kt, et)) (hk : keyFits P kt k = true) (hz : tzero P et = some z) (hr : H.get r = some (.map es)) (hl : keysLike k es) :
    lookupR P t false (some (.map (some r))) (some k) H = some ((getA k es).getD z, H) := by
  unfold keyT at hu
  split at hu
  · rename_i hd
    injection hu with hu; injection hu with h1 h2; subst h1; subst h2
    simp only [lookupR, lookupSem, hd, hk, if_true, hz, Sm.run, mapOpt, hr]
    rcases findA_like hl with ⟨h1, h2⟩ | ⟨j, v, h1, h2, _⟩
    · simp [h1, h2]
    · simp [h1, h2]
  · cases hu

theorem lookup_two {t kt et : TypeId} {z k : AV} {r : Nat} {es : List (AV × AV)} (hu : keyT P t = some (kt, et)) (hk : keyFits P kt k = true) (hz : tzero P et = some z) (hr : H.get r = some (.map es)) (hl : keysLike k es) :
    lookupR P t true (some (.map (some r))) (some k) H = some (.tuple [(getA k es).getD z, .bool (getA k es).isSome], H) := by
  unfold keyT at hu
  split at hu
  · rename_i hd
    injection hu with hu; injection hu with h1 h2; subst h1; subst h2
    simp only [lookupR, lookupSem, hd, hk, if_true, hz, Sm.run, mapOpt, hr]
    rcases findA_like hl with ⟨h1, h2⟩ | ⟨j, v, h1, h2, _⟩
    · simp [h1, h2]
    · simp [h1, h2]
  · cases hu

def updateR (P : Program) (t : TypeId) : Option AV → Option AV → Option AV → Heap → Option (AV × Heap)
  | some m, some k, some v, H => match updateSem P t m k v with
    | some s => s.run H
    | none => none
  | _, _, _, _ => none
theorem opR_mapUpdate (t : TypeId) (x y z : Operand) : opR P N e (.mapUpdate t x y z) H = updateR P t (ev P (tab N e) x) (ev P (tab N e) y) (ev P (tab N e) z) H := by
  simp only [opR_eq, sem]
  cases ev P (tab N e) x with
  | none => cases ev P (tab N e) y <;> cases ev P (tab N e) z <;> rfl
  | some a => cases ev P (tab N e) y with
    | none => cases ev P (tab N e) z <;> rfl
    | some b => cases ev P (tab N e) z <;> rfl
theorem opR_insert (t : TypeId) (x y z : Operand) : opR P N e (.insert t x y z) H = updateR P t (ev P (tab N e) x) (ev P (tab N e) y) (ev P (tab N e) z) H := by
  simp only [opR_eq, sem]
  cases ev P (tab N e) x with
  | none => cases ev P (tab N e) y <;> cases ev P (tab N e) z <;> rfl
  | some a => cases ev P (tab N e) y with
    | none => cases ev P (tab N e) z <;> rfl
    | some b => cases ev P (tab N e) z <;> rfl

theorem update_one {t kt et : TypeId} {k v : AV} {r : Nat} {es : List (AV × AV)} (hu : keyT P t = some (kt, et)) (hk : keyFits P kt k = true) (hr : H.get r = some (.map es)) (hl : keysLike k es) :
    updateR P t (some (.map (some r))) (some k) (some v) H = some (.undef, H.set r (.map (setA k v es))) := by
  unfold keyT at hu
  split at hu
  · rename_i hd
    injection hu with hu; injection hu with h1 h2; subst h1; subst h2
    simp only [updateR, updateSem, hd, hk, if_true, Sm.run, hr]
    rcases findA_like hl with ⟨h1, h2⟩ | ⟨j, u, h1, h2, h3⟩
    · simp only [h2, setA_none h1]
    · have := setA_some (v := v) h3
      simp only [Nat.sub_zero] at this
      simp only [h2, this, mapSet]
  · cases hu

theorem delete_one {ts : Array TypeId} {t kt et : TypeId} {k : AV} {r : Nat} {es : List (AV × AV)} (ht : ts[0]? = some t) (hu : keyT P t = some (kt, et)) (hk : keyFits P kt k = true) (hr : H.get r = some (.map es)) (hl : keysLike k es)
    (hsame : getA k es = none → H.set r (.map es) = H) :
    builtinR P .delete ts (some [.map (some r), k]) H = some (.undef, H.set r (.map (delA k es))) := by
  unfold keyT at hu
  split at hu
  · rename_i hd
    injection hu with hu; injection hu with h1 h2; subst h1; subst h2
    rw [builtinR_eq]
    simp only [builtinSem, deleteSem, ht, hd, hk, if_true, Sm.run, hr]
    rcases findA_like hl with ⟨h1, h2⟩ | ⟨j, u, h1, h2, h3⟩
    · simp only [h2, delA_none h1, hsame h1]
    · have := delA_some h3
      simp only [Nat.sub_zero] at this
      simp only [h2, this]
  · cases hu

end
end Go.Abs

/- The walking kit: rules that rewrite without side conditions, numbers without wraps, slices that are read, what a piece of code leaves alone. -/
namespace Go.Abs
set_option linter.unusedVariables false
set_option linter.unusedSimpArgs false

/-! ## numbers -/
theorem wrapI64 {a : Int} (h : -9223372036854775808 ≤ a ∧ a ≤ 9223372036854775807) : IntKind.i64.wrap a = a := by
  unfold IntKind.wrap
  dsimp only
  split <;> rename_i h1 <;> simp [IntKind.bits, IntKind.signed] at h1 ⊢ <;> omega
theorem wrapU8 {a : Int} (h : 0 ≤ a ∧ a ≤ 255) : IntKind.u8.wrap a = a := by
  unfold IntKind.wrap
  dsimp only
  split <;> rename_i h1 <;> simp [IntKind.bits, IntKind.signed] at h1 ⊢ <;> omega
theorem wrapU32 {a : Int} (h : 0 ≤ a ∧ a ≤ 4294967295) : IntKind.u32.wrap a = a := by
  unfold IntKind.wrap
  dsimp only
  split <;> rename_i h1 <;> simp [IntKind.bits, IntKind.signed] at h1 ⊢ <;> omega
theorem wrapU64 {a : Int} (h : 0 ≤ a ∧ a ≤ 18446744073709551615) : IntKind.u64.wrap a = a := by
  unfold IntKind.wrap
  dsimp only
  split <;> rename_i h1 <;> simp [IntKind.bits, IntKind.signed] at h1 ⊢ <;> omega
theorem wrapU64_big {a : Int} (h : 18446744073709551616 ≤ a ∧ a < 36893488147419103232) : IntKind.u64.wrap a = a - 18446744073709551616 := by
  unfold IntKind.wrap
  dsimp only
  split <;> rename_i h1 <;> simp [IntKind.bits, IntKind.signed] at h1 ⊢ <;> omega
theorem tdivN {a b : Int} (h : 0 ≤ a) : a.tdiv b = a / b := Int.tdiv_eq_ediv_of_nonneg h
theorem tmodN {a b : Int} (h : 0 ≤ a) : a.tmod b = a % b := Int.tmod_eq_emod_of_nonneg h
theorem ipos {α : Sort _} {c : Prop} [Decidable c] {a b : α} (h : c) : (if c then a else b) = a := if_pos h
theorem ineg {α : Sort _} {c : Prop} [Decidable c] {a b : α} (h : ¬ c) : (if c then a else b) = b := if_neg h
theorem dpos {c : Prop} [Decidable c] (h : c) : decide c = true := decide_eq_true h
theorem dneg {c : Prop} [Decidable c] (h : ¬ c) : decide c = false := decide_eq_false h

section
variable {P : Program} {N : Nat} {e : Nat → AV} {H : Heap}

/-! ## operands -/
theorem ev_tmp' (i : Nat) : ev P (tab N e) (.tmp i) = some (if i < N then e i else .undef) := by
  by_cases h : i < N
  · rw [ev_tmp h, if_pos h]
  · rw [if_neg h]; simp [ev, List.getD, List.getElem?_eq_none (by rw [tab_len]; omega : (tab N e).length ≤ i)]
theorem ev_func (f : FuncId) : ev P (tab N e) (.func f) = some (.func (.func f) [] []) := rfl
theorem evOpt_none : evOpt P (tab N e) none = some none := rfl
theorem evOpt_some (x : Operand) : evOpt P (tab N e) (some x) = (ev P (tab N e) x).map some := rfl

/-! ## two operands -/
variable {t : TypeId} {k : IntKind} {a b : Int}
theorem binR_quo' : binR P .quo t (some (.int k a)) (some (.int k b)) H = if b = 0 then none else some (.int k (k.wrap (a.tdiv b)), H) := by
  by_cases h : b = 0
  · simp [binR, binSem, intOp, h]
  · rw [if_neg h]; exact binR_quo h
theorem binR_rem' : binR P .rem t (some (.int k a)) (some (.int k b)) H = if b = 0 then none else some (.int k (a.tmod b), H) := by
  by_cases h : b = 0
  · simp [binR, binSem, intOp, h]
  · rw [if_neg h]; exact binR_rem h
def isBoolT (P : Program) (t : TypeId) : Bool := match P.underlying t with | some .bool => true | _ => false
theorem isBoolT_of (h : isBoolT P t = true) : P.underlying t = some .bool := by unfold isBoolT at h; split at h <;> first | assumption | cases h
theorem binR_beql' {x y : Bool} : binR P .eql t (some (.bool x)) (some (.bool y)) H = if isBoolT P t then some (.bool (x == y), H) else none := by
  by_cases h : isBoolT P t = true
  · rw [if_pos h]; exact binR_beql (isBoolT_of h)
  · rw [if_neg h]; unfold isBoolT at h; simp only [binR, binSem]; split at h <;> first | (exact absurd rfl h) | (split <;> simp_all)
theorem binR_bneq' {x y : Bool} : binR P .neq t (some (.bool x)) (some (.bool y)) H = if isBoolT P t then some (.bool !(x == y), H) else none := by
  by_cases h : isBoolT P t = true
  · rw [if_pos h]; exact binR_bneq (isBoolT_of h)
  · rw [if_neg h]; unfold isBoolT at h; simp only [binR, binSem]; split at h <;> first | (exact absurd rfl h) | (split <;> simp_all)

theorem eqSem_ptrnil {x : Option (Nat × Nat)} {neg : Bool} : eqSem P t (.ptr x) (.ptr none) neg = if isPtrT P t then some (.pure (.bool (x.isNone != neg))) else none := by
  unfold eqSem isPtrT
  cases P.underlying t with
  | none => cases x <;> rfl
  | some d => cases d <;> cases x <;> rfl
theorem binR_ptrn {x : Option (Nat × Nat)} : binR P .eql t (some (.ptr x)) (some (.ptr none)) H = if isPtrT P t then some (.bool x.isNone, H) else none := by
  simp only [binR, binSem, eqSem_ptrnil]
  by_cases h : isPtrT P t = true <;> simp [h, Sm.run]
theorem binR_ptrnn {x : Option (Nat × Nat)} : binR P .neq t (some (.ptr x)) (some (.ptr none)) H = if isPtrT P t then some (.bool !x.isNone, H) else none := by
  simp only [binR, binSem, eqSem_ptrnil]
  by_cases h : isPtrT P t = true <;> simp [h, Sm.run]
theorem binR_sln {x : Option (Nat × Nat)} {n c : Nat} {s : Option Nat} {n' c' : Nat} {s' : Option Nat} : binR P .eql t (some (.slice x n c s)) (some (.slice none n' c' s')) H = if isSliceT P t then some (.bool x.isNone, H) else none := by
  by_cases h : isSliceT P t = true
  · rw [if_pos h]; exact binR_slnil h
  · rw [if_neg h]; unfold isSliceT at h; simp only [binR, binSem, eqSem]; split at h <;> first | (exact absurd rfl h) | (split <;> simp_all)
theorem binR_slnn {x : Option (Nat × Nat)} {n c : Nat} {s : Option Nat} {n' c' : Nat} {s' : Option Nat} : binR P .neq t (some (.slice x n c s)) (some (.slice none n' c' s')) H = if isSliceT P t then some (.bool !x.isNone, H) else none := by
  by_cases h : isSliceT P t = true
  · rw [if_pos h]; exact binR_slniln h
  · rw [if_neg h]; unfold isSliceT at h; simp only [binR, binSem, eqSem]; split at h <;> first | (exact absurd rfl h) | (split <;> simp_all)

/-- Two pointers into one block. -/
theorem binR_ptreq {b o o' : Nat} (hp : isPtrT P t = true) (hz : ∀ u, P.underlying t = some (.pointer u) → (tsz P u).getD 0 ≠ 0) :
    binR P .eql t (some (.ptr (some (b, o)))) (some (.ptr (some (b, o')))) H = some (.bool (o == o'), H) := by
  obtain ⟨u, hu⟩ := isPtrT_of hp
  simp [binR, binSem, eqSem, Sm.run, hu, hz u hu]
theorem binR_ptrne {b o b' o' : Nat} {c d : List AV} {x y : TypeId} (hp : isPtrT P t = true) (hz : ∀ u, P.underlying t = some (.pointer u) → (tsz P u).getD 0 ≠ 0) (hne : b ≠ b')
    (h1 : H.get b = some (.cells c x true false)) (h2 : H.get b' = some (.cells d y true false)) (l1 : o < c.length) (l2 : o' < d.length) :
    binR P .eql t (some (.ptr (some (b, o)))) (some (.ptr (some (b', o')))) H = some (.bool false, H) := by
  obtain ⟨u, hu⟩ := isPtrT_of hp
  simp [binR, binSem, eqSem, Sm.run, hu, hz u hu, hne, mapOpt, h1, h2, eqRead, l1, l2]

theorem binR_shl : binR P .shl t (some (.int k a)) (some (.int .u64 b)) H = if b < 0 then none else some (.int k (k.wrap (a * 2 ^ (min b.toNat k.bits))), H) := by
  simp only [binR, binSem, shiftOp]
  by_cases h : b < 0 <;> simp [h, Sm.run]
theorem binR_shr {j : IntKind} : binR P .shr t (some (.int k a)) (some (.int j b)) H = if b < 0 then none else some (.int k (a.fdiv (2 ^ (min b.toNat k.bits))), H) := by
  simp only [binR, binSem, shiftOp]
  by_cases h : b < 0 <;> simp [h, Sm.run]
theorem binR_shl' {j : IntKind} : binR P .shl t (some (.int k a)) (some (.int j b)) H = if b < 0 then none else some (.int k (k.wrap (a * 2 ^ (min b.toNat k.bits))), H) := by
  simp only [binR, binSem, shiftOp]
  by_cases h : b < 0 <;> simp [h, Sm.run]
theorem binR_strlss {x y : List UInt8} : binR P .lss t (some (.str x)) (some (.str y)) H = some (.bool (Op.bytesLess x y), H) := by simp [binR, binSem, strOp, Sm.run]
theorem binR_strgtr {x y : List UInt8} : binR P .gtr t (some (.str x)) (some (.str y)) H = some (.bool !(Op.bytesLess x y || x == y), H) := by simp [binR, binSem, strOp, Sm.run]
theorem binR_stradd' {x y : List UInt8} : binR P .add t (some (.str x)) (some (.str y)) H = if x.length + y.length ≤ 4611686018427387904 then some (.str (x ++ y), H) else none := by
  have e : (4611686018427387904 : Nat) = 2 ^ 62 := by decide
  rw [e]
  simp only [binR, binSem, strOp]
  by_cases h : x.length + y.length ≤ 2 ^ 62 <;> simp [h, Sm.run]
theorem unR_neg : unR .neg (some (.int k a)) H = some (.int k (k.wrap (0 - a)), H) := by unfold unR; rfl
theorem unR_xor : unR .xor (some (.int k a)) H = some (.int k (k.wrap (BitVec.ofInt k.bits (if k.signed then -1 else k.max) ^^^ BitVec.ofInt k.bits a).toNat), H) := by unfold unR; rfl

/-! structs compared -/
theorem binR_agg {cs ds : List AV} : binR P .eql t (some (.agg cs)) (some (.agg ds)) H = match eqSem P t (.agg cs) (.agg ds) false with | some s => s.run H | none => none := by unfold binR; rfl
theorem binR_aggn {cs ds : List AV} : binR P .neq t (some (.agg cs)) (some (.agg ds)) H = match eqSem P t (.agg cs) (.agg ds) true with | some s => s.run H | none => none := by unfold binR; rfl

/-! ## builtins: 'builtinX' is builtinR, stuck -/
def builtinX (P : Program) (b : Builtin) (ts : Array TypeId) (args : Option (List AV)) (H : Heap) : Option (AV × Heap) := builtinR P b ts args H
theorem len_slice' {ts : Array TypeId} {x : Option (Nat × Nat)} {n c : Nat} {s : Option Nat} : builtinR P .len ts (some [.slice x n c s]) H = if firstT isSliceT P ts then some (.int .i64 n, H) else builtinX P .len ts (some [.slice x n c s]) H := by
  by_cases h : firstT isSliceT P ts = true
  · rw [if_pos h]; exact len_slice h
  · rw [if_neg h]; rfl
theorem len_str' {ts : Array TypeId} {x : List UInt8} : builtinR P .len ts (some [.str x]) H = if firstT isStrT P ts then some (.int .i64 x.length, H) else builtinX P .len ts (some [.str x]) H := by
  by_cases h : firstT isStrT P ts = true
  · rw [if_pos h]; exact len_str h
  · rw [if_neg h]; rfl
theorem len_mapnil' {ts : Array TypeId} : builtinR P .len ts (some [.map none]) H = if firstT isMapT P ts then some (.int .i64 0, H) else builtinX P .len ts (some [.map none]) H := by
  by_cases h : firstT isMapT P ts = true
  · rw [if_pos h]; exact len_mapnil h
  · rw [if_neg h]; rfl
theorem len_map' {ts : Array TypeId} {r : Nat} : builtinR P .len ts (some [.map (some r)]) H = if firstT isMapT P ts then (match H.get r with | some (.map es) => some (.int .i64 es.length, H) | _ => none) else builtinX P .len ts (some [.map (some r)]) H := by
  by_cases h : firstT isMapT P ts = true
  · rw [if_pos h]
    obtain ⟨t, ht, h⟩ := firstT_of h
    obtain ⟨_, _, hu⟩ := isMapT_of h
    simp only [builtinR_eq, builtinSem, lenSem, ht, hu, Sm.run, mapOpt]
    cases H.get r with
    | none => rfl
    | some o => cases o <;> rfl
  · rw [if_neg h]; rfl
def isArrT (P : Program) (t : TypeId) : Option Nat := match P.underlying t with | some (.array n _) => some n | _ => none
theorem len_arr {ts : Array TypeId} {cs : List AV} : builtinR P .len ts (some [.agg cs]) H = match ts[0]? with | some t => (match isArrT P t with | some n => some (.int .i64 n, H) | none => builtinX P .len ts (some [.agg cs]) H) | none => none := by
  simp only [builtinR_eq, builtinSem, lenSem, builtinX]
  cases ht : ts[0]? with
  | none => rfl
  | some t =>
    simp only [isArrT]
    cases hu : P.underlying t with
    | none => rfl
    | some d => cases d <;> simp [hu, Sm.run]
theorem min_two' {ts : Array TypeId} : builtinR P .min ts (some [.int k a, .int k b]) H = some (.int k (min a b), H) := by
  rw [min_two, show (if b < a then b else a) = min a b from by split <;> omega]
theorem max_two' {ts : Array TypeId} : builtinR P .max ts (some [.int k a, .int k b]) H = some (.int k (max a b), H) := by
  rw [max_two, show (if b > a then b else a) = max a b from by split <;> omega]

end
attribute [irreducible] builtinX
end Go.Abs

/- The walking kit, second part: conversions, slicing, indexes, what is made, maps. -/
namespace Go.Abs
set_option linter.unusedVariables false
set_option linter.unusedSimpArgs false

section
variable {P : Program} {N : Nat} {e : Nat → AV} {H : Heap}

/-! ## conversions -/
def convR (P : Program) (s t : TypeId) : Option AV → Heap → Option (AV × Heap)
  | some v, H => match convSem P s t v with
    | some m => m.run H
    | none => none
  | none, _ => none
theorem opR_conv (s t : TypeId) (x : Operand) : opR P N e (.convert s t x) H = convR P s t (ev P (tab N e) x) H := by
  simp only [opR_eq, sem]
  cases ev P (tab N e) x <;> rfl
def convX (P : Program) (s t : TypeId) (v : AV) (H : Heap) : Option (AV × Heap) := convR P s t (some v) H
/-- the kind of a number's type -/
def intT (P : Program) (t : TypeId) : Option IntKind := match P.underlying t with | some (.int k) => some k | _ => none
/-- a slice of bytes -/
def bytesT (P : Program) (t : TypeId) : Bool := match P.underlying t with
  | some (.slice e) => match P.underlying e with | some (.int .u8) => true | _ => false
  | _ => false
/-- its elements' type -/
def elemT (P : Program) (t : TypeId) : Option TypeId := match P.underlying t with | some (.slice e) => some e | _ => none
theorem bytesT_of {t : TypeId} (h : bytesT P t = true) : ∃ u, P.underlying t = some (.slice u) ∧ P.underlying u = some (.int .u8) := by
  unfold bytesT at h
  split at h
  · rename_i u hu
    split at h
    · exact ⟨u, hu, by assumption⟩
    · cases h
  · cases h
theorem convR_int {s t : TypeId} {j : IntKind} {n : Int} : convR P s t (some (.int j n)) H = match intT P s, intT P t with | some _, some k => some (.int k (k.wrap n), H) | _, _ => convX P s t (.int j n) H := by
  cases hs : intT P s with
  | none => rfl
  | some i =>
    cases ht : intT P t with
    | none => rfl
    | some k =>
      unfold intT at hs ht
      simp only [convR, convSem]
      split at hs <;> first | cases hs | skip
      split at ht <;> first | cases ht | skip
      rename_i h1 _ h2
      simp only [h1, h2, Sm.run]
theorem convR_str {s t : TypeId} {x : List UInt8} : convR P s t (some (.str x)) H = if isStrT P s && isStrT P t then some (.str x, H) else
    if isStrT P s && bytesT P t then (match elemT P t with | some e => if tsz P e = some 1 ∧ x.length ≤ 4611686018427387904 then some (.slice (some (H.next, 0)) x.length x.length (some 1), H.push (.cells (cellsOfBytes x) e true true)) else none | none => none) else convX P s t (.str x) H := by
  by_cases h : (isStrT P s && isStrT P t) = true
  · rw [if_pos h]
    rw [Bool.and_eq_true] at h
    have h1 := isStrT_of h.1
    have h2 := isStrT_of h.2
    simp only [convR, convSem, h1, h2, Sm.run]
  · rw [if_neg h]
    by_cases g : (isStrT P s && bytesT P t) = true
    · rw [if_pos g]
      rw [Bool.and_eq_true] at g
      have h1 := isStrT_of g.1
      obtain ⟨u, h2, h3⟩ := bytesT_of g.2
      have e2 : (4611686018427387904 : Nat) = 2 ^ 62 := by decide
      rw [e2]
      simp only [elemT, h2, convR, convSem, h1, h3]
      by_cases hc : tsz P u = some 1 ∧ x.length ≤ 2 ^ 62
      · simp only [if_pos hc, Sm.run]
      · simp only [if_neg hc]
    · rw [if_neg g]; rfl
theorem convR_bytes {s t : TypeId} {b o n c : Nat} {x : Option Nat} : convR P s t (some (.slice (some (b, o)) n c x)) H = if bytesT P s && isStrT P t then (match H.get b with | some (.cells cs _ _ _) => if o + n ≤ cs.length then (match bytesOfCells ((cs.drop o).take n) with | some l => some (.str l, H) | none => none) else none | _ => none) else convX P s t (.slice (some (b, o)) n c x) H := by
  by_cases h : (bytesT P s && isStrT P t) = true
  · rw [if_pos h]
    rw [Bool.and_eq_true] at h
    obtain ⟨u, h1, h3⟩ := bytesT_of h.1
    have h2 := isStrT_of h.2
    simp only [convR, convSem, h1, h2, h3, Sm.run, mapOpt]
    cases hb : H.get b with
    | none => simp
    | some o' =>
      cases o' with
      | cells cs e w m =>
        simp only []
        by_cases hc : o + n ≤ cs.length
        · simp only [if_pos hc]
          cases bytesOfCells ((cs.drop o).take n) <;> rfl
        · simp only [if_neg hc]
      | _ => rfl
  · rw [if_neg h]; rfl
theorem convR_bytesnil {s t : TypeId} {n c : Nat} {x : Option Nat} : convR P s t (some (.slice none n c x)) H = if bytesT P s && isStrT P t then some (.str [], H) else convX P s t (.slice none n c x) H := by
  by_cases h : (bytesT P s && isStrT P t) = true
  · rw [if_pos h]
    rw [Bool.and_eq_true] at h
    obtain ⟨u, h1, h3⟩ := bytesT_of h.1
    have h2 := isStrT_of h.2
    simp only [convR, convSem, h1, h2, h3, Sm.run]
  · rw [if_neg h]; rfl

/-- So many bytes 0. -/
def zeroB (n : Nat) : List UInt8 := List.replicate n 0
theorem zeroB_len (n : Nat) : (zeroB n).length = n := by simp [zeroB]
theorem bytesOfCells_of (l : List UInt8) : bytesOfCells (cellsOfBytes l) = some l := by
  induction l with
  | nil => rfl
  | cons x l ih =>
    have e1 : cellsOfBytes (x :: l) = .int .u8 x.toNat :: cellsOfBytes l := rfl
    rw [e1, bytesOfCells, ih]
    simp
theorem cellsOfBytes_len (l : List UInt8) : (cellsOfBytes l).length = l.length := by simp [cellsOfBytes]
theorem cellsOfBytes_drop (l : List UInt8) (n : Nat) : (cellsOfBytes l).drop n = cellsOfBytes (l.drop n) := by simp [cellsOfBytes, List.map_drop]
theorem cellsOfBytes_take (l : List UInt8) (n : Nat) : (cellsOfBytes l).take n = cellsOfBytes (l.take n) := by simp [cellsOfBytes, List.map_take]
theorem cellsOfBytes_app (l m : List UInt8) : cellsOfBytes (l ++ m) = cellsOfBytes l ++ cellsOfBytes m := by simp [cellsOfBytes]
theorem cellsOfBytes_nil : cellsOfBytes [] = [] := rfl
theorem cellsOfBytes_get (l : List UInt8) (i : Nat) : (cellsOfBytes l)[i]? = (l[i]?).map fun b => AV.int .u8 b.toNat := by simp [cellsOfBytes]
theorem cellsOfBytes_one (l : List UInt8) : (cellsOfBytes l).all AV.one = true := by simp [cellsOfBytes, AV.one]
theorem cellsOfBytes_inj {l m : List UInt8} (h : cellsOfBytes l = cellsOfBytes m) : l = m := by
  have := congrArg bytesOfCells h
  simpa [bytesOfCells_of] using this

/-! ## slicing -/
def sliceR (P : Program) (t : TypeId) : Option AV → Option (Option AV) → Option (Option AV) → Option (Option AV) → Heap → Option (AV × Heap)
  | some v, some l, some h, some m, H => match sliceSem P t v l h m with
    | some r => some (r, H)
    | none => none
  | _, _, _, _, _ => none
theorem opR_slice (t : TypeId) (x : Operand) (lo hi mx : Option Operand) : opR P N e (.slice t x lo hi mx) H = sliceR P t (ev P (tab N e) x) (evOpt P (tab N e) lo) (evOpt P (tab N e) hi) (evOpt P (tab N e) mx) H := by
  simp only [opR_eq, sem]
  cases ev P (tab N e) x with
  | none => cases evOpt P (tab N e) lo <;> cases evOpt P (tab N e) hi <;> cases evOpt P (tab N e) mx <;> rfl
  | some v =>
    cases evOpt P (tab N e) lo with
    | none => cases evOpt P (tab N e) hi <;> cases evOpt P (tab N e) mx <;> rfl
    | some l =>
      cases evOpt P (tab N e) hi with
      | none => cases evOpt P (tab N e) mx <;> rfl
      | some h =>
        cases evOpt P (tab N e) mx with
        | none => rfl
        | some m => simp only [sliceR]; cases sliceSem P t v l h m <;> rfl
/-- bounds as numbers -/
def bnd : Option AV → Int → Option Int
  | some (.int _ i), _ => some i
  | some _, _ => none
  | none, d => some d
def slcR (s : Nat) (a : Option (Nat × Nat)) (cap : Nat) (ex : Option Nat) (mx : Bool) (l h m : Int) (H : Heap) : Option (AV × Heap) :=
  if 0 ≤ l ∧ l ≤ h ∧ h ≤ m ∧ m ≤ cap then match a with
    | none => some (.slice none 0 0 none, H)
    | some (b, o) => if ex = none ∨ ex = some s then some (.slice (some (b, o + l.toNat * s)) (h - l).toNat (m - l).toNat (if mx then none else ex), H) else none
  else none
theorem bnd_some {o : Option AV} {d l : Int} (h : bnd o d = some l) : (o = none ∧ d = l) ∨ ∃ k, o = some (.int k l) := by
  cases o with
  | none => simp [bnd] at h; exact .inl ⟨rfl, h⟩
  | some v => cases v <;> simp [bnd] at h; exact .inr ⟨_, by rw [h]⟩
theorem boundA_int {k : IntKind} {i : Int} {y : Nat} : boundA (.int k i) y = if 0 ≤ i ∧ i ≤ y then some i.toNat else none := rfl
theorem boundsA_yes {len cap : Nat} {lo hi mx : Option AV} {l h m : Int} (hl : bnd lo 0 = some l) (hh : bnd hi (if mx.isSome then -1 else len) = some h) (hm : bnd mx cap = some m) (hlc : len ≤ cap) (hf : mx.isSome → hi.isSome)
    (hc : 0 ≤ l ∧ l ≤ h ∧ h ≤ m ∧ m ≤ cap) : boundsA len cap lo hi mx = some (l.toNat, h.toNat, m.toNat) := by
  obtain ⟨c1, c2, c3, c4⟩ := hc
  unfold boundsA
  rcases bnd_some hm with ⟨rfl, rfl⟩ | ⟨k, rfl⟩
  · rcases bnd_some hh with ⟨rfl, rfl⟩ | ⟨j, rfl⟩
    · rcases bnd_some hl with ⟨rfl, rfl⟩ | ⟨i, rfl⟩
      · simp
      · simp only [boundA_int]; rw [if_pos ⟨c1, by simpa using c2⟩]; simp
    · simp only [boundA_int]
      rw [if_pos ⟨by omega, by omega⟩]
      rcases bnd_some hl with ⟨rfl, rfl⟩ | ⟨i, rfl⟩
      · simp
      · simp only [boundA_int]; rw [if_pos ⟨c1, by omega⟩]; simp
  · rcases bnd_some hh with ⟨rfl, rfl⟩ | ⟨j, rfl⟩
    · simp at hf
    · simp only [boundA_int]
      rw [if_pos ⟨by omega, c4⟩]
      simp only []
      rw [if_pos ⟨by omega, by omega⟩]
      rcases bnd_some hl with ⟨rfl, rfl⟩ | ⟨i, rfl⟩
      · simp
      · simp only [boundA_int]; rw [if_pos ⟨c1, by omega⟩]
theorem boundsA_no {len cap : Nat} {lo hi mx : Option AV} {l h m : Int} (hl : bnd lo 0 = some l) (hh : bnd hi (if mx.isSome then -1 else len) = some h) (hm : bnd mx cap = some m) (hlc : len ≤ cap) (hf : mx.isSome → hi.isSome)
    (hc : ¬ (0 ≤ l ∧ l ≤ h ∧ h ≤ m ∧ m ≤ cap)) : boundsA len cap lo hi mx = none := by
  unfold boundsA
  rcases bnd_some hm with ⟨rfl, rfl⟩ | ⟨k, rfl⟩
  · rcases bnd_some hh with ⟨rfl, rfl⟩ | ⟨j, rfl⟩
    · rcases bnd_some hl with ⟨rfl, rfl⟩ | ⟨i, rfl⟩
      · simp at hc; omega
      · simp only [boundA_int]; rw [if_neg (by simp at hc ⊢; omega)]
    · simp only [boundA_int]
      by_cases hq : 0 ≤ h ∧ h ≤ cap
      · rw [if_pos hq]
        rcases bnd_some hl with ⟨rfl, rfl⟩ | ⟨i, rfl⟩
        · omega
        · simp only [boundA_int]; rw [if_neg (by omega)]
      · rw [if_neg hq]
  · rcases bnd_some hh with ⟨rfl, rfl⟩ | ⟨j, rfl⟩
    · simp at hf
    · simp only [boundA_int]
      by_cases hq : 0 ≤ m ∧ m ≤ cap
      · rw [if_pos hq]
        simp only []
        by_cases hr : 0 ≤ h ∧ h ≤ m.toNat
        · rw [if_pos hr]
          rcases bnd_some hl with ⟨rfl, rfl⟩ | ⟨i, rfl⟩
          · omega
          · simp only [boundA_int]; rw [if_neg (by omega)]
        · rw [if_neg hr]
      · rw [if_neg hq]
theorem sliceR_slice {t : TypeId} {a : Option (Nat × Nat)} {len cap : Nat} {ex : Option Nat} {lo hi mx : Option AV} {s : Nat} (hs : elemS P t = some s) {l h m : Int}
    (hl : bnd lo 0 = some l) (hh : bnd hi (if mx.isSome then -1 else len) = some h) (hm : bnd mx cap = some m) (hlc : len ≤ cap) (hf : mx.isSome → hi.isSome) :
    sliceR P t (some (.slice a len cap ex)) (some lo) (some hi) (some mx) H = slcR s a cap ex mx.isSome l h m H := by
  unfold elemS at hs
  split at hs
  · rename_i u hu
    simp only [sliceR, sliceSem, hu, slcR]
    by_cases hc : 0 ≤ l ∧ l ≤ h ∧ h ≤ m ∧ m ≤ cap
    · rw [if_pos hc, boundsA_yes hl hh hm hlc hf hc, hs]
      obtain ⟨c1, c2, c3, c4⟩ := hc
      cases a with
      | none => rfl
      | some p =>
        obtain ⟨b, o⟩ := p
        simp only []
        have e4 : (ex.isNone || ex == some s) = decide (ex = none ∨ ex = some s) := by
          cases ex with
          | none => simp
          | some y => by_cases hy : y = s <;> simp [hy]
        rw [e4]
        by_cases hx : ex = none ∨ ex = some s
        · simp only [hx, decide_true, if_true]
          rw [show h.toNat - l.toNat = (h - l).toNat from by omega, show m.toNat - l.toNat = (m - l).toNat from by omega]
        · simp [hx]
    · rw [if_neg hc, boundsA_no hl hh hm hlc hf hc]
  · cases hs

/-- the four forms over a slice: s[l:], s[:h], s[l:h], s[l:h:m] -/
theorem slc_l {t : TypeId} {a : Option (Nat × Nat)} {len cap : Nat} {ex : Option Nat} {k : IntKind} {l : Int} (hc : len ≤ cap) : sliceR P t (some (.slice a len cap ex)) (some (some (.int k l))) (some none) (some none) H = match elemS P t with | some s => slcR s a cap ex false l len cap H | none => none := by
  cases hs : elemS P t with
  | some s => exact sliceR_slice hs rfl rfl rfl hc (by simp)
  | none => unfold elemS at hs; simp only [sliceR, sliceSem]; split at hs <;> simp_all
theorem slc_h {t : TypeId} {a : Option (Nat × Nat)} {len cap : Nat} {ex : Option Nat} {k : IntKind} {h : Int} (hc : len ≤ cap) : sliceR P t (some (.slice a len cap ex)) (some none) (some (some (.int k h))) (some none) H = match elemS P t with | some s => slcR s a cap ex false 0 h cap H | none => none := by
  cases hs : elemS P t with
  | some s => exact sliceR_slice hs rfl rfl rfl hc (by simp)
  | none => unfold elemS at hs; simp only [sliceR, sliceSem]; split at hs <;> simp_all
theorem slc_lh {t : TypeId} {a : Option (Nat × Nat)} {len cap : Nat} {ex : Option Nat} {k j : IntKind} {l h : Int} (hc : len ≤ cap) : sliceR P t (some (.slice a len cap ex)) (some (some (.int k l))) (some (some (.int j h))) (some none) H = match elemS P t with | some s => slcR s a cap ex false l h cap H | none => none := by
  cases hs : elemS P t with
  | some s => exact sliceR_slice hs rfl rfl rfl hc (by simp)
  | none => unfold elemS at hs; simp only [sliceR, sliceSem]; split at hs <;> simp_all
theorem slc_hm {t : TypeId} {a : Option (Nat × Nat)} {len cap : Nat} {ex : Option Nat} {k i : IntKind} {h m : Int} (hc : len ≤ cap) : sliceR P t (some (.slice a len cap ex)) (some none) (some (some (.int k h))) (some (some (.int i m))) H = match elemS P t with | some s => slcR s a cap ex true 0 h m H | none => none := by
  cases hs : elemS P t with
  | some s => exact sliceR_slice hs rfl rfl rfl hc (by simp)
  | none => unfold elemS at hs; simp only [sliceR, sliceSem]; split at hs <;> simp_all
theorem slc_lhm {t : TypeId} {a : Option (Nat × Nat)} {len cap : Nat} {ex : Option Nat} {k j i : IntKind} {l h m : Int} (hc : len ≤ cap) : sliceR P t (some (.slice a len cap ex)) (some (some (.int k l))) (some (some (.int j h))) (some (some (.int i m))) H = match elemS P t with | some s => slcR s a cap ex true l h m H | none => none := by
  cases hs : elemS P t with
  | some s => exact sliceR_slice hs rfl rfl rfl hc (by simp)
  | none => unfold elemS at hs; simp only [sliceR, sliceSem]; split at hs <;> simp_all
theorem slcR_some {s b o cap : Nat} {ex : Option Nat} {mx : Bool} {l h m : Int} (hc : 0 ≤ l ∧ l ≤ h ∧ h ≤ m ∧ m ≤ cap) : slcR s (some (b, o)) cap ex mx l h m H = if ex = none ∨ ex = some s then some (.slice (some (b, o + l.toNat * s)) (h - l).toNat (m - l).toNat (if mx then none else ex), H) else none := by
  unfold slcR; rw [if_pos hc]
theorem slcR_none {s cap : Nat} {ex : Option Nat} {mx : Bool} {l h m : Int} (hc : 0 ≤ l ∧ l ≤ h ∧ h ≤ m ∧ m ≤ cap) : slcR s none cap ex mx l h m H = some (.slice none 0 0 none, H) := by
  unfold slcR; rw [if_pos hc]

/-- over a pointer to an array -/
theorem slcA_gen {t : TypeId} {b o : Nat} {lo hi : Option AV} {n s : Nat} (hs : elemA P t = some (n, s)) {l h : Int} (hl : bnd lo 0 = some l) (hh : bnd hi n = some h) (hc : 0 ≤ l ∧ l ≤ h ∧ h ≤ n) :
    sliceR P t (some (.ptr (some (b, o)))) (some lo) (some hi) (some none) H = some (.slice (some (b, o + l.toNat * s)) (h - l).toNat (n - l).toNat none, H) := by
  unfold elemA at hs
  split at hs
  · rename_i n' u hu
    cases hz : tsz P u with
    | none => simp [hz] at hs
    | some s' =>
      simp [hz] at hs
      obtain ⟨rfl, rfl⟩ := hs
      have e4 := boundsA_yes (len := n') (cap := n') (mx := none) (m := n') hl (by simpa using hh) rfl (Nat.le_refl _) (by simp) ⟨hc.1, hc.2.1, hc.2.2, Int.le_refl _⟩
      obtain ⟨c1, c2, c3⟩ := hc
      simp only [sliceR, sliceSem, hu, e4, hz]
      rw [show h.toNat - l.toNat = (h - l).toNat from by omega, show ((n' : Int)).toNat - l.toNat = ((n' : Int) - l).toNat from by omega]
  · cases hs

/-- over a text -/
theorem slcS_gen {t : TypeId} {x : List UInt8} {lo hi : Option AV} (ht : isStrT P t = true) {l h : Int} (hl : bnd lo 0 = some l) (hh : bnd hi x.length = some h) (hc : 0 ≤ l ∧ l ≤ h ∧ h ≤ x.length) :
    sliceR P t (some (.str x)) (some lo) (some hi) (some none) H = some (.str ((x.take h.toNat).drop l.toNat), H) := by
  have hu := isStrT_of ht
  have e4 := boundsA_yes (len := x.length) (cap := x.length) (mx := none) (m := x.length) hl (by simpa using hh) rfl (Nat.le_refl _) (by simp) ⟨hc.1, hc.2.1, hc.2.2, Int.le_refl _⟩
  simp only [sliceR, sliceSem, hu, e4]

end
attribute [irreducible] convR convX sliceR slcR
end Go.Abs
