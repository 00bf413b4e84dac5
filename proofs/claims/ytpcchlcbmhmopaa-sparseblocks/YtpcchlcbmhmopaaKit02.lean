/- Texts on the abstract machine, joined. -/
import Derived.Test.YtpcchlcbmhmopaaKit01
import Derived.Laws.Sem
import Derived.ChangeOld
import Derived.Laws.StructEq
import Derived.ChangeKeysEq

/- Each operation of the model comes to what the abstract machine says: operands, loads and stores, new blocks. -/
namespace Go.Abs
set_option linter.unusedVariables false
set_option linter.unusedSimpArgs false

/-! ## what an operation delivers -/
def Delivers (P : Program) (s : Sem Next) (w : World) (R : Value → World → Prop) : Prop :=
  match s.run P w with
  | .ok (.value v) w' => R v w'
  | .ok .skip w' => R Go.undef w'
  | .ok (.enter f args) w' => Calls P f args w' fun e w'' => ∃ v, e = .returned v ∧ R v w''
  | _ => False

theorem wp_of_delivers {P : Program} {o : Oper} {a : Act} {w : World} {next : Act → World → Prop} {Q : Exit → Act → World → Prop} {R : Value → World → Prop}
    (h : Delivers P (execOp a.eval o) w R) (hn : ∀ v w', R v w' → next (a.put o.dst v) w') : o.wp P a w next Q := by
  unfold Oper.wp Delivers at *
  generalize (execOp a.eval o).run P w = r at *
  cases r with
  | ok n w' =>
    cases n <;> simp only [Oper.upon] at h ⊢ <;> first
      | exact hn _ _ h
      | (refine Calls.mono h ?_; rintro e w'' ⟨v, rfl, hv⟩; exact hn _ _ hv)
      | exact h.elim
  | halt x w' => exact h.elim

/-- What is claimed of an operation: its value and the memory behind it are the abstract machine's. -/
def Does (P : Program) (ρ : Map) (H : Heap) (w : World) (v : AV) (H' : Heap) (s : Sem Next) : Prop :=
  Delivers P s w fun u w' => ∃ ρ', Good P.globals.size ρ H w ρ' H' w' ∧ VRel ρ' v u

theorem does_value {P : Program} {ρ : Map} {H : Heap} {w w' : World} {v : AV} {H' : Heap} {s : Sem Next} {u : Value} {ρ' : Map}
    (h : s.run P w = .ok (.value u) w') (hg : Good P.globals.size ρ H w ρ' H' w') (hv : VRel ρ' v u) : Does P ρ H w v H' s := by
  unfold Does Delivers
  rw [h]
  exact ⟨ρ', hg, hv⟩

theorem does_skip {P : Program} {ρ : Map} {H : Heap} {w w' : World} {H' : Heap} {s : Sem Next} {ρ' : Map}
    (h : s.run P w = .ok .skip w') (hg : Good P.globals.size ρ H w ρ' H' w') : Does P ρ H w .undef H' s := by
  unfold Does Delivers
  rw [h]
  exact ⟨ρ', hg, VRel.undef _⟩

/-- A value of the memory that is there. -/
theorem does_pure {P : Program} {ρ : Map} {H : Heap} {w : World} {v : AV} {s : Sem Next} {u : Value} (hs : Sim P.globals.size ρ H w)
    (h : s.run P w = .ok (.value u) w) (hv : VRel ρ v u) : Does P ρ H w v H s :=
  does_value h (Good.refl hs) hv

abbrev Frel (ρ : Map) (T : List AV) (a : Act) : Prop := VRels ρ T a.tmps.toList

abbrev Glob (P : Program) (ρ : Map) : Prop := ∀ g, g < P.globals.size → ∃ p, ρ g = some p ∧ p.blk = g ∧ p.off = 0

theorem getD_rel {ρ : Map} {T : List AV} {l : Array Value} (h : VRels ρ T l.toList) (t : Nat) : VRel ρ (T.getD t .undef) (l.getD t Go.undef) := by
  have hl := h.length
  by_cases ht : t < T.length
  · obtain ⟨v, hv, r⟩ := h.get t T[t] (by simp [ht])
    rw [List.getD_eq_getElem?_getD, List.getElem?_eq_getElem ht]
    have : l.getD t Go.undef = v := by
      rw [Array.getD_eq_getD_getElem?, ← Array.getElem?_toList, hv]; rfl
    rw [this]; exact r
  · rw [List.getD_eq_getElem?_getD, List.getElem?_eq_none (by omega), Array.getD_eq_getD_getElem?, ← Array.getElem?_toList, List.getElem?_eq_none (by omega)]
    exact VRel.undef ρ

theorem ev_rel {P : Program} {ρ : Map} {T : List AV} {a : Act} (hf : Frel ρ T a) (hg : Glob P ρ) {x : Operand} {v : AV} (h : ev P T x = some v) : VRel ρ v (a.eval x) := by
  cases x with
  | tmp t => simp only [ev, Option.some.injEq] at h; subst h; exact getD_rel hf t
  | const c => exact ofConst_rel h ρ
  | global g =>
    simp only [ev] at h
    split at h
    · rename_i hlt
      injection h with h; subst h
      obtain ⟨p, hp, h1, h2⟩ := hg g hlt
      exact ⟨p, hp, by simp [Act.eval, h1, h2]⟩
    · exact absurd h (by simp)
  | func f => simp only [ev, Option.some.injEq] at h; subst h; exact ⟨#[], #[], rfl, rfl, rfl⟩

theorem evs_rel {P : Program} {ρ : Map} {T : List AV} {a : Act} (hf : Frel ρ T a) (hg : Glob P ρ) {l : Array Operand} {vs : List AV} (h : mapOpt (ev P T) l.toList = some vs) :
    VRels ρ vs (l.map a.eval).toList := by
  have := mapOpt_rel (ρ := ρ) (g := a.eval) (fun x v hx => ev_rel hf hg hx) h
  simpa using this

/-! ## types -/
theorem tsz_run {P : Program} {t : TypeId} {n : Nat} (h : tsz P t = some n) (w : World) : (sizeOf t).run P w = .ok n w := by
  unfold tsz at h
  cases hi : P.info? t with
  | none => simp [hi] at h
  | some i => simp [hi] at h; simp [sizeOf, typeInfo, hi, h]

theorem tinfo_run {P : Program} {t : TypeId} {i : TypeInfo} (h : P.info? t = some i) (w : World) : (typeInfo t).run P w = .ok i w := by
  simp [typeInfo, h]

theorem tagg_run {P : Program} {t : TypeId} {g : Bool} (h : tagg P t = some g) (w : World) : (isAgg t).run P w = .ok g w := by
  unfold tagg at h
  cases hd : P.underlying t with
  | none => simp [hd] at h
  | some d => cases d <;> simp [hd] at h <;> subst h <;> simp [isAgg, underlying, hd]

theorem tzero_run {P : Program} {t : TypeId} {z : AV} (h : tzero P t = some z) : ∃ u, (∀ w, (zeroValue t).run P w = .ok u w) ∧ ∀ ρ, VRel ρ z u := by
  unfold tzero at h
  cases hi : P.info? t with
  | none => simp [hi] at h
  | some i =>
    cases hz : i.zero with
    | none => simp [hi, hz] at h
    | some u =>
      simp [hi, hz] at h
      exact ⟨u, fun w => by simp [zeroValue, typeInfo, hi, hz], fun ρ => ofConst_rel h ρ⟩

/-! ## reading -/
theorem addr_add (b o j : Nat) : (⟨b, o, none⟩ : Addr).add j = ⟨b, o + j, none⟩ := by
  unfold Addr.add
  split
  · rename_i h; subst h; rfl
  · rfl

theorem cell_of {w : World} {B : Nat} {C : Array Value} {e : TypeId} {fr : Nat × Nat} (h : w.heap[B]? = some (.cells C e fr)) (j : Nat) : w.cell? ⟨B, j, none⟩ = C[j]? := by
  simp [World.cell?, h]

/-- A row of cells read, in whatever world the block lies. -/
theorem cells_reads {ρ : Map} {P : Program} {c : List AV} {C : Array Value} {off B : Nat} {e : TypeId} {fr : Nat × Nat} (hc : CRel ρ c C off)
    (o n : Nat) (hn : o + n ≤ c.length) : ∃ us : Array Value, (∀ w : World, w.heap[B]? = some (.cells C e fr) → (loadCells ⟨B, off + o, none⟩ n).run P w = .ok us w) ∧ VRels ρ ((c.drop o).take n) us.toList := by
  have key : ∀ i, i < n → ∃ u, C[off + o + i]? = some u ∧ ∃ a, c[o + i]? = some a ∧ VRel ρ a u := by
    intro i hi
    obtain ⟨u, hu, r⟩ := hc (o + i) c[o + i] (by simp [show o + i < c.length by omega])
    exact ⟨u, by rw [← hu]; congr 1; omega, c[o + i], by simp [show o + i < c.length by omega], r⟩
  let us : List Value := (List.range n).map fun i => (C[off + o + i]?).getD Go.undef
  have hlen : us.length = n := by simp [us]
  have hget : ∀ i u, us[i]? = some u → i < n ∧ C[off + o + i]? = some u := by
    intro i u hu
    have hi : i < n := by
      rcases Nat.lt_or_ge i n with h | h
      · exact h
      · rw [List.getElem?_eq_none (by omega)] at hu; exact absurd hu (by simp)
    obtain ⟨x, hx, _⟩ := key i hi
    simp [us, hi, hx] at hu
    exact ⟨hi, by rw [← hu]; exact hx⟩
  refine ⟨us.toArray, ?_, ?_⟩
  · intro w hh
    have := run_loadCells_list (P := P) w ⟨B, off + o, none⟩ us (fun j v hj => by
      rw [addr_add, cell_of hh]
      exact (hget j v hj).2)
    rw [hlen] at this
    exact this
  · refine VRels.mk (by simp [hlen]; omega) ?_
    intro i a v ha hv
    obtain ⟨hi, hC⟩ := hget i v (by simpa using hv)
    obtain ⟨u, hu, b, hb, r⟩ := key i hi
    rw [hu] at hC; injection hC with hC; subst hC
    rw [List.getElem?_take, if_pos hi, List.getElem?_drop, hb] at ha
    injection ha with ha; subst ha
    exact r

/-- A row of cells read. -/
theorem cells_read {ρ : Map} {w : World} {P : Program} {c : List AV} {C : Array Value} {off B : Nat} {e : TypeId} {fr : Nat × Nat} (hh : w.heap[B]? = some (.cells C e fr)) (hc : CRel ρ c C off)
    (o n : Nat) (hn : o + n ≤ c.length) : ∃ us : Array Value, (loadCells ⟨B, off + o, none⟩ n).run P w = .ok us w ∧ VRels ρ ((c.drop o).take n) us.toList := by
  obtain ⟨us, h, r⟩ := cells_reads (P := P) (B := B) (e := e) (fr := fr) hc o n hn
  exact ⟨us, h w hh, r⟩

theorem load_cell {w : World} {P : Program} {a : Addr} {v : Value} (h : w.cell? a = some v) : (load a).run P w = .ok v w := by simp [h]

/-- A variable read. -/
theorem var_read {P : Program} {G : Nat} {ρ : Map} {H : Heap} {w : World} (hs : Sim G ρ H w) {t : TypeId} {g : Bool} {n b o : Nat} {x : AObj} {v : AV} {p : Place}
    (hg : tagg P t = some g) (hn : tsz P t = some n) (hx : H.get b = some x) (hp : ρ b = some p) (hr : readVar g n o x = some v) :
    ∃ u, (loadVar t ⟨p.blk, p.off + o, none⟩).run P w = .ok u w ∧ VRel ρ v u := by
  cases x with
  | map es => simp [readVar] at hr
  | dead => simp [readVar] at hr
  | cells c e own mk =>
    obtain ⟨p1, C, el, fr, hp1, hh, hc, _⟩ := hs.obj b _ hx
    rw [hp] at hp1; injection hp1 with hp1; subst hp1
    simp only [readVar] at hr
    cases g with
    | true =>
      simp only [if_true] at hr
      split at hr
      · rename_i hle
        injection hr with hr; subst hr
        obtain ⟨us, hu, r⟩ := cells_read (P := P) hh hc o n hle
        exact ⟨.agg us, by simp [loadVar, tagg_run hg, tsz_run hn, hu], us, rfl, r⟩
      · exact absurd hr (by simp)
    | false =>
      simp at hr
      obtain ⟨u, hu, r⟩ := hc o v hr
      exact ⟨u, by simp [loadVar, tagg_run hg, World.cell?, hh, hu], r⟩

/-! ## writing -/
theorem run_store_one {P : Program} {w : World} {a : Addr} {v : Value} (h1 : (∀ cs, v ≠ .agg cs) ∧ (∀ cs, v ≠ .tuple cs)) (hc : ∃ u, w.cell? a = some u) (hf : w.frozen? a = false) :
    (store a v).run P w = .ok () (w.setCell a v) := by
  have h : v.oneCell' = true := by
    cases v <;> first | rfl | exact absurd rfl (h1.1 _) | exact absurd rfl (h1.2 _)
  obtain ⟨u, hu⟩ := hc
  rw [run_store P w a v .plain h, hu]
  simp [hf]

theorem set_self_get {H : Heap} {b : Nat} {o : AObj} (h : H.get b = some o) : ∀ x, (H.set b o).get x = H.get x := by
  intro x
  rw [Heap.get_set]
  split
  · rename_i e; subst e; exact h.symm
  · rfl

/-- Cells written one behind the other. -/
theorem cells_written {P : Program} {ρ : Map} {b : Nat} {p : Place} {e : TypeId} {m : Bool} (hp : ρ b = some p) : ∀ (vs : List AV) (us : List Value) {G : Nat} {H : Heap} {w : World} {c : List AV} (o0 i : Nat),
    Sim G ρ H w → H.get b = some (.cells c e true m) → o0 + i + vs.length ≤ c.length → VRels ρ vs us → vs.all AV.one = true →
    ∃ w', (storeCells ⟨p.blk, p.off + o0, none⟩ us i).run P w = .ok () w' ∧ Good G ρ H w ρ (H.set b (.cells (writeAt c (o0 + i) vs) e true m)) w'
  | [], us, G, H, w, c, o0, i, hs, hg, hl, hv, h1 => by
    cases hv
    exact ⟨w, rfl, (Good.refl hs).congr (set_self_get hg) rfl⟩
  | v :: vs, us, G, H, w, c, o0, i, hs, hg, hl, ⟨u, us', hu, hv, hvs⟩, h1 => by
    subst hu
    simp only [List.all_cons, Bool.and_eq_true] at h1
    simp only [List.length_cons] at hl
    obtain ⟨hg1, hcell, hfr⟩ := Good.write1 hs hg (o := o0 + i) (by omega) hp hv
    have hst := run_store_one (P := P) (hv.one h1.1) hcell hfr
    obtain ⟨w', hrun, hg2⟩ := cells_written hp vs us' o0 (i + 1) hg1.sim (Heap.get_set_same _ _ _) (by simp; omega) hvs h1.2
    refine ⟨w', ?_, ?_⟩
    · simp only [storeCells, Sem.run_bind, addr_add]
      rw [show p.off + o0 + i = p.off + (o0 + i) by omega, hst]
      simp only [Result.andThen_ok]
      exact hrun
    · refine (hg1.trans hg2).congr ?_ rfl
      intro x
      simp only [Heap.get_set, writeAt, Nat.add_assoc]
      split <;> rfl

theorem writeCells_run {P : Program} {G : Nat} {ρ : Map} {H H' : Heap} {w : World} (hs : Sim G ρ H w) {b o : Nat} {vs : List AV} {us : List Value} {p : Place} (hp : ρ b = some p)
    (h : writeCells H b o vs = some H') (hv : VRels ρ vs us) : ∃ w', (storeCells ⟨p.blk, p.off + o, none⟩ us).run P w = .ok () w' ∧ Good G ρ H w ρ H' w' := by
  unfold writeCells at h
  split at h
  · injection h with h; subst h
    cases hv
    exact ⟨w, rfl, Good.refl hs⟩
  · split at h
    · rename_i c e m hg
      split at h
      · rename_i hc
        injection h with h; subst h
        simp only [Bool.and_eq_true, decide_eq_true_eq] at hc
        obtain ⟨w', hr, hg'⟩ := cells_written (P := P) hp vs us o 0 hs hg (by omega) hv hc.2
        exact ⟨w', hr, hg'⟩
      · exact absurd h (by simp)
    · exact absurd h (by simp)

/-- Cells laid behind the last one, out of the slack. -/
theorem cells_extended {P : Program} {ρ : Map} {b : Nat} {p : Place} {e : TypeId} {m : Bool} (hp : ρ b = some p) : ∀ (vs : List AV) (us : List Value) {G : Nat} {H : Heap} {w : World} {c : List AV} (o0 i : Nat),
    Sim G ρ H w → H.get b = some (.cells c e true m) → o0 + i = c.length → c.length + vs.length ≤ p.tot → VRels ρ vs us → vs.all AV.one = true →
    ∃ w', (storeCells ⟨p.blk, p.off + o0, none⟩ us i).run P w = .ok () w' ∧ Good G ρ H w ρ (H.set b (.cells (c ++ vs) e true m)) w'
  | [], us, G, H, w, c, o0, i, hs, hg, hl, _, hv, h1 => by
    cases hv
    exact ⟨w, rfl, (Good.refl hs).congr (by rw [List.append_nil]; exact set_self_get hg) rfl⟩
  | v :: vs, us, G, H, w, c, o0, i, hs, hg, hl, hl2, ⟨u, us', hu, hv, hvs⟩, h1 => by
    subst hu
    simp only [List.all_cons, Bool.and_eq_true] at h1
    simp only [List.length_cons] at hl2
    obtain ⟨hg1, hcell, hfr⟩ := Good.extend1 hs hg (by omega) hp hv
    have hst := run_store_one (P := P) (hv.one h1.1) hcell hfr
    obtain ⟨w', hrun, hg2⟩ := cells_extended hp vs us' o0 (i + 1) hg1.sim (Heap.get_set_same _ _ _) (by simp; omega) (by simp; omega) hvs h1.2
    refine ⟨w', ?_, ?_⟩
    · simp only [storeCells, Sem.run_bind, addr_add]
      rw [show p.off + o0 + i = p.off + c.length by omega, hst]
      simp only [Result.andThen_ok]
      exact hrun
    · refine (hg1.trans hg2).congr ?_ rfl
      intro x
      simp only [Heap.get_set, List.append_assoc, List.singleton_append]
      split <;> rfl

/-! ## new blocks -/
/-- A new block of cells. -/
theorem Good.newCells {G : Nat} {ρ : Map} {H : Heap} {w : World} (hs : Sim G ρ H w) (hn : ρ H.next = none) {cs : List AV} {C : Array Value} {e el : TypeId} {m : Bool} {fr : Nat × Nat}
    (hc : VRels ρ cs (C.toList.take cs.length)) (hl : cs.length ≤ C.size) (hfr : fr = (0, 0) ∨ (m = true ∧ fr = (C.size, C.size + 1))) :
    Good G ρ H w (upd ρ H.next ⟨w.heap.size, 0, C.size⟩) (H.push (.cells cs e true m)) (w.alloc (.cells C el fr)) := by
  refine Good.push hs hn ?_ rfl
  refine ⟨_, C, el, fr, upd_same _ _ _, push_at _, ?_, by simpa using hl, hl, fun _ => ⟨by simp, hfr⟩⟩
  intro i a ha
  obtain ⟨v, hv, r⟩ := hc.get i a ha
  refine ⟨v, ?_, VRel.mono (Ext.upd _ hn) _ _ r⟩
  rw [List.getElem?_take] at hv
  split at hv
  · simpa using hv
  · exact absurd hv (by simp)

theorem Good.newRow {G : Nat} {ρ : Map} {H : Heap} {w : World} (hs : Sim G ρ H w) (hn : ρ H.next = none) {cs : List AV} {C : Array Value} {e el : TypeId} (hc : VRels ρ cs C.toList) (m : Bool) :
    Good G ρ H w (upd ρ H.next ⟨w.heap.size, 0, C.size⟩) (H.push (.cells cs e true m)) (w.alloc (.cells C el)) := by
  have hl := hc.length
  refine Good.newCells hs hn ?_ (by simp at hl; omega) (.inl rfl)
  rw [List.take_of_length_le (by simp at hl; simp; omega)]
  exact hc

end Go.Abs

/- Each operation of the model comes to what the abstract machine says: one lemma an operation. -/
namespace Go.Abs
set_option linter.unusedVariables false
set_option linter.unusedSimpArgs false

/-- No block beyond the next number. -/
def Wf (H : Heap) : Prop := ∀ b, H.next ≤ b → H.get b = none

/-- What a call is claimed to do. -/
def CallOk (P : Program) (call : CallFn) : Prop :=
  ∀ (f : FuncId) (args : List AV) (H : Heap) (v : AV) (H' : Heap), call f args H = some (v, H') → ∀ (ρ : Map) (w : World) (us : Array Value), Sim P.globals.size ρ H w →
    Wf H → (∀ b, H.next ≤ b → b < H'.next → ρ b = none) → VRels ρ args us.toList → Does P ρ H w v H' (callFunc f us)

theorem does_congr {P : Program} {ρ : Map} {H H' : Heap} {w : World} {v : AV} {s s' : Sem Next} (h : s.run P w = s'.run P w) (hd : Does P ρ H w v H' s') : Does P ρ H w v H' s := by
  unfold Does Delivers at *
  rw [h]
  exact hd

/-- What is claimed of an operation's meaning. -/
def SemOk (P : Program) (a : Act) (s : Sm) (n : Sem Next) (ρ : Map) : Prop :=
  ∀ (H : Heap) (w : World) (v : AV) (H' : Heap), Sim P.globals.size ρ H w → s.run H = some (v, H') → (∀ b, H.next ≤ b → b < H'.next → ρ b = none) →
    (∀ k, s = .heavy k → Wf H) → Does P ρ H w v H' n

section
variable {P : Program} {a : Act} {ρ : Map}

/-- A value whatever the memory. -/
theorem semOk_pure {v : AV} {u : Value} {n : Sem Next} (h : ∀ w, n.run P w = .ok (.value u) w) (hv : VRel ρ v u) : SemOk P a (.pure v) n ρ := by
  intro H w v' H' hs hr _ hwf
  simp only [Sm.run, Option.some.injEq, Prod.mk.injEq] at hr
  obtain ⟨rfl, rfl⟩ := hr
  exact does_pure hs (h w) hv

theorem semOk_pure_skip {n : Sem Next} (h : ∀ w, n.run P w = .ok .skip w) : SemOk P a (.pure .undef) n ρ := by
  intro H w v' H' hs hr _ hwf
  simp only [Sm.run, Option.some.injEq, Prod.mk.injEq] at hr
  obtain ⟨rfl, rfl⟩ := hr
  exact does_skip (h w) (Good.refl hs)

/-- A new block of cells. -/
theorem semOk_newRow {cs : List AV} {C : Array Value} {e el : TypeId} {m : Bool} {mk : Nat → AV} {n : Sem Next} {u : Nat → Value}
    (h : ∀ w, n.run P w = .ok (.value (u w.heap.size)) (w.alloc (.cells C el))) (hc : VRels ρ cs C.toList)
    (hv : ∀ ρ' b B, ρ' b = some ⟨B, 0, C.size⟩ → VRel ρ' (mk b) (u B)) : SemOk P a (.alloc (.cells cs e true m) mk) n ρ := by
  intro H w v' H' hs hr hfree hwf
  simp only [Sm.run, Option.some.injEq, Prod.mk.injEq] at hr
  obtain ⟨rfl, rfl⟩ := hr
  exact does_value (h w) (Good.newRow hs (hfree _ (Nat.le_refl _) (by simp)) hc m) (hv _ _ _ (upd_same _ _ _))

theorem run_v (s : Sem Value) (w w' : World) (u : Value) (h : s.run P w = .ok u w') : (do pure (Next.value (← s)) : Sem Next).run P w = .ok (.value u) w' := by
  simp [h]

theorem run_u (s : Sem Unit) (w w' : World) (h : s.run P w = .ok () w') : (do s; pure Next.skip : Sem Next).run P w = .ok .skip w' := by
  simp [h]

/-! ## lists of cells -/
theorem foldl_write {ρ : Map} : ∀ (vs : List AV) (us : List Value) (cs : List AV) (A : Array Value) (off k : Nat), VRels ρ vs us → VRels ρ cs A.toList →
    VRels ρ (writeAt cs (off + k) vs) ((us.zipIdx k).foldl (fun cs (x : Value × Nat) => cs.setIfInBounds (off + x.2) x.1) A).toList
  | [], us, cs, A, off, k, hv, hc => by cases hv; simpa [writeAt] using hc
  | v :: vs, us, cs, A, off, k, ⟨u, us', hu, hv, hvs⟩, hc => by
    subst hu
    simp only [List.zipIdx_cons, List.foldl_cons, writeAt]
    exact foldl_write vs us' (cs.set (off + k) v) (A.setIfInBounds (off + k) u) off (k + 1) hvs (by rw [Array.toList_setIfInBounds]; exact hc.set _ hv)

theorem size_cells {ρ : Map} {v : AV} {u : Value} (h : VRel ρ v u) : u.cells.size = v.cells.length := by
  have := h.cells.length
  simpa using this

inductive PRels (ρ : Map) : List (Nat × AV) → List (Nat × Value) → Prop where
  | nil : PRels ρ [] []
  | cons {i v u r r'} : VRel ρ v u → PRels ρ r r' → PRels ρ ((i, v) :: r) ((i, u) :: r')

theorem fill_rel {ρ : Map} {place : Nat → Option (Nat × Nat)} : ∀ {parts : List (Nat × AV)} {parts' : List (Nat × Value)} {cs cs' : List AV} {A : Array Value}, PRels ρ parts parts' → VRels ρ cs A.toList →
    fillA place cs parts = some cs' → ∃ A', Instr.fill place A parts' = some A' ∧ VRels ρ cs' A'.toList
  | _, _, cs, cs', A, .nil, hc, h => by
    simp only [fillA, Option.some.injEq] at h
    subst h
    exact ⟨A, rfl, hc⟩
  | _, _, cs, cs', A, .cons (i := i) (v := v) (u := u) hv hr, hc, h => by
    simp only [fillA] at h
    cases hp : place i with
    | none => simp [hp] at h
    | some q =>
      obtain ⟨off, size⟩ := q
      simp only [hp] at h
      split at h
      · exact absurd h (by simp)
      · rename_i hno
        have hsz := size_cells hv
        have hA := hc.length
        simp only [Bool.or_eq_true, decide_eq_true_eq, not_or, ne_eq, Decidable.not_not] at hno
        have hw := foldl_write v.cells u.cells.toList cs A off 0 hv.cells hc
        obtain ⟨A', hf, r⟩ := fill_rel hr (by simpa using hw) h
        refine ⟨A', ?_, r⟩
        simp only [Instr.fill, hp]
        rw [if_neg (by simp only [Bool.or_eq_true, decide_eq_true_eq, not_or, ne_eq, Decidable.not_not]; simp at hA; omega)]
        rw [← hf]
        congr 1
        rw [← Array.foldl_toList, Array.toList_zipIdx]

theorem evParts_rel {T : List AV} (hf : Frel ρ T a) (hg : Glob P ρ) : ∀ {parts : List (Nat × Operand)} {ps : List (Nat × AV)}, evParts P T parts = some ps → PRels ρ ps (parts.map fun (i, x) => (i, a.eval x))
  | [], ps, h => by simp only [evParts, Option.some.injEq] at h; subst h; exact .nil
  | (i, x) :: r, ps, h => by
    simp only [evParts] at h
    cases hx : ev P T x with
    | none => simp [hx] at h
    | some v =>
      cases hr : evParts P T r with
      | none => simp [hx, hr] at h
      | some vs =>
        simp [hx, hr] at h
        subst h
        exact .cons (ev_rel hf hg hx) (evParts_rel hf hg hr)

theorem length_zeros (zc : List AV) (n : Nat) : (zeros zc n).length = n * zc.length := by
  induction n with
  | zero => simp [zeros]
  | succ n ih => simp [zeros, ih, Nat.succ_mul]; omega

theorem get_zeros (zc : List AV) (n i : Nat) (h : i < n * zc.length) : (zeros zc n)[i]? = zc[i % zc.length]? := by
  induction n generalizing i with
  | zero => simp at h
  | succ n ih =>
    simp only [zeros]
    by_cases hi : i < zc.length
    · rw [List.getElem?_append_left hi, Nat.mod_eq_of_lt hi]
    · rw [List.getElem?_append_right (by omega), ih _ (by rw [Nat.succ_mul] at h; omega), Nat.mod_eq_sub_mod (show zc.length ≤ i by omega)]

theorem zeros_rel {zc : List AV} {zu : Array Value} (h : VRels ρ zc zu.toList) (n : Nat) (hn : n * zc.length ≠ 0 ∨ True) :
    VRels ρ (zeros zc n) ((Array.range (n * zc.length)).map (zu[· % zu.size]!)).toList := by
  have hl := h.length
  simp at hl
  refine VRels.mk (by simp [length_zeros]) ?_
  intro i x v hx hv
  have hi : i < n * zc.length := by
    rcases Nat.lt_or_ge i (n * zc.length) with h | h
    · exact h
    · rw [List.getElem?_eq_none (by rw [length_zeros]; exact h)] at hx; exact absurd hx (by simp)
  have hpos : 0 < zc.length := by
    rcases Nat.eq_zero_or_pos zc.length with e | e
    · rw [e] at hi; simp at hi
    · exact e
  rw [get_zeros _ _ _ hi] at hx
  obtain ⟨u, hu, r⟩ := h.get _ x hx
  simp [hi] at hv
  rw [← hv]
  have hlt : i % zu.size < zu.size := Nat.mod_lt _ (by omega)
  have : u = zu[i % zu.size]! := by
    rw [getElem!_pos zu _ hlt]
    rw [← hl] at hu
    simp [hlt] at hu
    exact hu.symm
  rw [← this]; exact r

/-! ## build -/
theorem fieldPlaces_run : ∀ {fs : List Field} {places : List (Nat × Nat)}, fieldPlaces P fs = some places → ∀ w,
    (fs.mapM (m := Sem) fun f => do pure (f.offset, ← sizeOf f.type)).run P w = .ok places w
  | [], places, h, w => by simp only [fieldPlaces, Option.some.injEq] at h; subst h; simp
  | f :: fs, places, h, w => by
    simp only [fieldPlaces] at h
    cases hn : tsz P f.type with
    | none => simp [hn] at h
    | some n =>
      cases hr : fieldPlaces P fs with
      | none => simp [hn, hr] at h
      | some r =>
        simp [hn, hr] at h
        subst h
        simp only [List.mapM_cons, Sem.run_bind, tsz_run hn, Result.andThen_ok, Sem.run_pure]
        have := fieldPlaces_run hr w
        rw [this]
        simp

theorem build_ok {t : TypeId} {ps : List (Nat × AV)} {parts : Array (Nat × Value)} {v : AV} (h : buildA P t ps = some v) (hp : PRels ρ ps parts.toList) :
    ∃ u, (∀ w, (Instr.build t parts).run P w = .ok u w) ∧ VRel ρ v u := by
  unfold buildA at h
  split at h
  · rename_i z fields hz hd
    cases hpl : fieldPlaces P fields.toList with
    | none => simp [hpl] at h
    | some places =>
      simp only [hpl] at h
      cases hfl : fillA (fun x => places[x]?) z.cells ps with
      | none => simp [hfl] at h
      | some cs' =>
        simp [hfl] at h
        subst h
        obtain ⟨zu, hzu, hzr⟩ := tzero_run hz
        obtain ⟨A', hA, r⟩ := fill_rel hp (hzr ρ).cells hfl
        refine ⟨.agg A', fun w => ?_, A', rfl, r⟩
        have hm : (fields.mapM (m := Sem) fun f => do pure (f.offset, ← sizeOf f.type)).run P w = .ok places.toArray w := by
          rw [Array.mapM_eq_mapM_toList]
          simp only [Sem.run_map, fieldPlaces_run hpl w, Result.andThen_ok]
        simp only [Instr.build, Sem.run_bind, hzu, Result.andThen_ok, underlying, run_program, hd, Sem.run_pure]
        rw [hm]
        simp only [Result.andThen_ok, List.getElem?_toArray, hA]
        rfl
  · rename_i z len elem hz hd
    cases hn : tsz P elem with
    | none => simp [hn] at h
    | some size =>
      simp only [hn] at h
      cases hfl : fillA (fun i => some (i * size, size)) z.cells ps with
      | none => simp [hfl] at h
      | some cs' =>
        simp [hfl] at h
        subst h
        obtain ⟨zu, hzu, hzr⟩ := tzero_run hz
        obtain ⟨A', hA, r⟩ := fill_rel hp (hzr ρ).cells hfl
        refine ⟨.agg A', fun w => ?_, A', rfl, r⟩
        simp only [Instr.build, Sem.run_bind, hzu, Result.andThen_ok, underlying, run_program, hd, Sem.run_pure, tsz_run hn, hA]
  · exact absurd h (by simp)

theorem buildSlice_ok {t : TypeId} {len : Nat} {ps : List (Nat × AV)} {parts : Array (Nat × Value)} {s : Sm} (h : buildSliceA P t len ps = some s) (hp : PRels ρ ps parts.toList) :
    SemOk P a s (do pure (.value (← Instr.buildSlice t len parts))) ρ := by
  unfold buildSliceA at h
  split at h
  · rename_i elem hd
    split at h
    · rename_i size z hn hz
      split at h
      · exact absurd h (by simp)
      · rename_i hno
        simp only [Bool.or_eq_true, decide_eq_true_eq, not_or, ne_eq, Decidable.not_not] at hno
        split at h
        · rename_i cells hfl
          injection h with h
          subst h
          obtain ⟨zu, hzu, hzr⟩ := tzero_run hz
          have hzc := (hzr ρ).cells
          have hzl := hzc.length
          simp at hzl
          by_cases h0 : len * size = 0
          · have hzz : zeros z.cells len = [] := by
              apply List.eq_nil_of_length_eq_zero
              rw [length_zeros, hno.2]; exact h0
            rw [hzz] at hfl
            obtain ⟨A', hA, r⟩ := fill_rel (A := #[]) hp (by rfl) hfl
            refine semOk_newRow (C := A') (el := elem) (u := fun B => .slice (some ⟨B, 0, none⟩) len len) (fun w => ?_) r ?_
            · apply run_v
              simp only [Instr.buildSlice, Sem.run_bind, underlying, run_program, Result.andThen_ok, hd, Sem.run_pure, tsz_run hn]
              rw [if_neg hno.1]
              simp only [Sem.run_bind, Sem.run_ite, Sem.run_pure, Result.andThen_ok, h0, if_true]
              have e : (Array.map (fun x => (#[] : Array Value)[x % (#[] : Array Value).size]!) (Array.range 0)) = #[] := by simp
              rw [e, hA]
              simp [newRow]
            · intro ρ' b B hB
              exact ⟨_, _, _, hB, rfl, Nat.le_refl _, Nat.le_refl _, .inr (by simp), .inl rfl⟩
          · obtain ⟨A', hA, r⟩ := fill_rel hp (zeros_rel hzc len (.inr trivial)) hfl
            refine semOk_newRow (C := A') (el := elem) (u := fun B => .slice (some ⟨B, 0, none⟩) len len) (fun w => ?_) r ?_
            · apply run_v
              simp only [Instr.buildSlice, Sem.run_bind, underlying, run_program, Result.andThen_ok, hd, Sem.run_pure, tsz_run hn]
              rw [if_neg hno.1]
              simp only [Sem.run_bind, Sem.run_ite, Sem.run_pure, Result.andThen_ok]
              rw [if_neg h0]
              simp only [Sem.run_bind, hzu, Result.andThen_ok, Sem.run_pure]
              rw [hno.2] at hA
              rw [hA]
              simp [newRow]
            · intro ρ' b B hB
              exact ⟨_, _, _, hB, rfl, Nat.le_refl _, Nat.le_refl _, .inr (by simp), .inl rfl⟩
        · exact absurd h (by simp)
    · exact absurd h (by simp)
  · exact absurd h (by simp)

end
end Go.Abs

/- Arguments that a row hands in, read: whatever they are, an abstract memory of blocks that may only be read bears them. -/
namespace Go.Abs
set_option linter.unusedVariables false

/-- The parts of a struct lie one behind the other. -/
def tiles (P : Program) : List Field → Nat → Nat → Bool
  | [], o, n => o == n
  | f :: fs, o, n => f.offset == o && tiles P fs (o + P.cellsOf f.type) n

/-- Types that are read here: plain ones, slices, structs, arrays. -/
def readable (P : Program) : Nat → TypeId → Bool
  | 0, _ => false
  | n + 1, t => match P.underlying t with
    | some .bool | some (.int _) | some .string => true
    | some (.slice e) => decide (0 < P.cellsOf e) && readable P n e
    | some (.struct fs) => tiles P fs.toList 0 (P.cellsOf t) && fs.toList.all fun f => readable P n f.type
    | some (.array m e) => decide (0 < P.cellsOf e) && P.cellsOf t == m * P.cellsOf e && readable P n e
    | _ => false

/-- What is known of the cells of an argument of a type. -/
def Pic (P : Program) (H : Heap) : Nat → TypeId → List AV → Prop
  | 0, _, _ => False
  | n + 1, t, acs => match P.underlying t with
    | some .bool => ∃ b, acs = [.bool b]
    | some (.int k) => ∃ z, acs = [.int k z] ∧ (Lit.int k z).wf = true
    | some .string => ∃ s, acs = [.str s] ∧ s.length ≤ maxLen
    | some (.slice e) => acs = [.slice none 0 0 none] ∨ ∃ b len c, acs = [.slice (some (b, 0)) len len (some (P.cellsOf e))] ∧ b < H.next ∧ len ≤ maxLen ∧ c.length = len * P.cellsOf e ∧
        (0 < len → H.get b = some (.cells c e false false)) ∧ ∀ i, i < len → Pic P H n e ((c.drop (i * P.cellsOf e)).take (P.cellsOf e))
    | some (.struct fs) => acs.length = P.cellsOf t ∧ ∀ f ∈ fs.toList, Pic P H n f.type ((acs.drop f.offset).take (P.cellsOf f.type))
    | some (.array m e) => acs.length = P.cellsOf t ∧ ∀ i, i < m → Pic P H n e ((acs.drop (i * P.cellsOf e)).take (P.cellsOf e))
    | _ => False

/-- The memory only grows. -/
def HExt (H H' : Heap) : Prop := H.next ≤ H'.next ∧ ∀ b, b < H.next → H'.get b = H.get b

theorem HExt.refl (H : Heap) : HExt H H := ⟨Nat.le_refl _, fun _ _ => rfl⟩
theorem HExt.trans {H H' H'' : Heap} (h : HExt H H') (g : HExt H' H'') : HExt H H'' :=
  ⟨Nat.le_trans h.1 g.1, fun b hb => (g.2 b (Nat.lt_of_lt_of_le hb h.1)).trans (h.2 b hb)⟩

theorem Pic.mono {P : Program} {H H' : Heap} (h : HExt H H') : ∀ (n : Nat) (t : TypeId) (acs : List AV), Pic P H n t acs → Pic P H' n t acs
  | 0, _, _, hp => hp
  | n + 1, t, acs, hp => by
    unfold Pic at hp ⊢
    split at hp
    · exact hp
    · exact hp
    · exact hp
    · rcases hp with hp | ⟨b, len, c, h1, h2, h3, h4, h5, h6⟩
      · exact .inl hp
      · exact .inr ⟨b, len, c, h1, Nat.lt_of_lt_of_le h2 h.1, h3, h4, fun hl => (h.2 b h2).trans (h5 hl), fun i hi => Pic.mono h n _ _ (h6 i hi)⟩
    · exact ⟨hp.1, fun f hf => Pic.mono h n _ _ (hp.2 f hf)⟩
    · exact ⟨hp.1, fun i hi => Pic.mono h n _ _ (hp.2 i hi)⟩
    · exact hp

/-- What holds of the memory while the arguments are read. -/
structure Held (G : Nat) (ρ : Map) (H : Heap) (w : World) : Prop where
  sim : Sim G ρ H w
  ro : ∀ b o, H.get b = some o → o.own = false
  wf : Wf H
  free : ∀ b, H.next ≤ b → ρ b = none

theorem Held.add {G : Nat} {ρ : Map} {H : Heap} {w : World} (h : Held G ρ H w) (hG : G ≤ H.next) (p : Place) (o : AObj) (ho : o.own = false)
    (hr : ORel (upd ρ H.next p) w H.next o) : Held G (upd ρ H.next p) (H.push o) w := by
  have hnone : ρ H.next = none := h.free _ (Nat.le_refl _)
  have hext := Ext.upd p hnone
  refine ⟨⟨?_, ?_, ?_⟩, ?_, ?_, ?_⟩
  · intro b x hb
    rw [Heap.get_push] at hb
    by_cases e : b = H.next
    · rw [if_pos e] at hb
      injection hb with hb
      subst hb; subst e
      exact hr
    · rw [if_neg e] at hb
      exact (h.sim.obj b x hb).grow hext fun _ _ h => h
  · intro b b' x x' q q' hb hb' hne hl hown
    exfalso
    rw [Heap.get_push] at hb'
    by_cases e : b' = H.next
    · rw [if_pos e] at hb'
      injection hb' with hb'
      subst hb'
      rw [ho] at hown; cases hown
    · rw [if_neg e] at hb'
      rw [h.ro b' x' hb'] at hown; cases hown
  · intro g hg
    obtain ⟨q, hq, r⟩ := h.sim.glob g hg
    exact ⟨q, hext _ _ hq, r⟩
  · intro b x hb
    rw [Heap.get_push] at hb
    by_cases e : b = H.next
    · rw [if_pos e] at hb
      injection hb with hb
      subst hb
      exact ho
    · rw [if_neg e] at hb
      exact h.ro b x hb
  · intro b hb
    rw [Heap.next_push] at hb
    rw [Heap.get_push, if_neg (by omega)]
    exact h.wf b (by omega)
  · intro b hb
    rw [Heap.next_push] at hb
    rw [upd_ne ρ p (by omega)]
    exact h.free b (by omega)

theorem HExt.push {H : Heap} (o : AObj) : HExt H (H.push o) :=
  ⟨by simp, fun b hb => by rw [Heap.get_push, if_neg (by omega)]⟩

/-- What reading gives. -/
def Reads (P : Program) (w : World) (ρ : Map) (H : Heap) (n : Nat) (t : TypeId) (cs : List Value) : Prop :=
  ∃ ρ' H' acs, Held P.globals.size ρ' H' w ∧ Ext ρ ρ' ∧ HExt H H' ∧ VRels ρ' acs cs ∧ Pic P H' n t acs

theorem VRels.len {ρ : Map} {a : List AV} {l : List Value} (h : VRels ρ a l) : a.length = l.length := (VRels.length h).symm

/-- Pieces of a length, one behind the other, each of them read. -/
theorem reads_pieces {P : Program} {w : World} {n : Nat} {e : TypeId} {s : Nat} {cs : List Value}
    (ih : ∀ (ρ : Map) (H : Heap) (i : Nat), (i + 1) * s ≤ cs.length → Held P.globals.size ρ H w → P.globals.size ≤ H.next → Reads P w ρ H n e ((cs.drop (i * s)).take s)) :
    ∀ (k : Nat) (ρ : Map) (H : Heap), k * s ≤ cs.length → Held P.globals.size ρ H w → P.globals.size ≤ H.next →
      ∃ ρ' H' acs, Held P.globals.size ρ' H' w ∧ Ext ρ ρ' ∧ HExt H H' ∧ VRels ρ' acs (cs.take (k * s)) ∧ ∀ i, i < k → Pic P H' n e ((acs.drop (i * s)).take s)
  | 0, ρ, H, _, hi, _ => ⟨ρ, H, [], hi, Ext.refl ρ, HExt.refl H, by simp [VRels], fun i h => by omega⟩
  | k + 1, ρ, H, hk, hi, hG => by
    have hks : (k + 1) * s = k * s + s := by rw [Nat.add_mul]; omega
    obtain ⟨ρ1, H1, a1, i1, e1, x1, v1, p1⟩ := reads_pieces ih k ρ H (by omega) hi hG
    obtain ⟨ρ2, H2, a2, i2, e2, x2, v2, p2⟩ := ih ρ1 H1 k hk i1 (Nat.le_trans hG x1.1)
    have hl1 : a1.length = k * s := by rw [v1.len]; simp; omega
    have hl2 : a2.length = s := by rw [v2.len]; simp; omega
    refine ⟨ρ2, H2, a1 ++ a2, i2, e1.trans e2, x1.trans x2, ?_, ?_⟩
    · have : cs.take ((k + 1) * s) = cs.take (k * s) ++ (cs.drop (k * s)).take s := by
        rw [hks, List.take_add]
      rw [this]
      exact (VRels.mono e2 _ _ v1).append v2
    · intro i hik
      by_cases h : i < k
      · have hb : (i + 1) * s ≤ k * s := Nat.mul_le_mul_right _ h
        rw [Nat.add_mul] at hb
        rw [List.drop_append_of_le_length (by omega), List.take_append_of_le_length (by simp; omega)]
        exact Pic.mono x2 _ _ _ (p1 i h)
      · have : i = k := by omega
        subst this
        rw [List.drop_append, ← hl1]
        simp only [List.drop_length, Nat.sub_self, List.drop_zero, List.nil_append]
        rw [List.take_of_length_le (by omega)]
        exact p2

theorem reads_fields {P : Program} {w : World} {n : Nat} {cs : List Value} :
    ∀ (fs : List Field) (o : Nat) (ρ : Map) (H : Heap) (a0 : List AV), tiles P fs o cs.length = true →
      (∀ f ∈ fs, ∀ (ρ : Map) (H : Heap), Held P.globals.size ρ H w → P.globals.size ≤ H.next → Reads P w ρ H n f.type ((cs.drop f.offset).take (P.cellsOf f.type))) →
      Held P.globals.size ρ H w → P.globals.size ≤ H.next → o ≤ cs.length → VRels ρ a0 (cs.take o) →
      ∃ ρ' H' acs, Held P.globals.size ρ' H' w ∧ Ext ρ ρ' ∧ HExt H H' ∧ VRels ρ' acs cs ∧ acs.take o = a0 ∧ ∀ f ∈ fs, Pic P H' n f.type ((acs.drop f.offset).take (P.cellsOf f.type))
  | [], o, ρ, H, a0, ht, _, hi, _, ho, hv => by
    have e : o = cs.length := by simpa [tiles] using ht
    subst e
    rw [List.take_length] at hv
    exact ⟨ρ, H, a0, hi, Ext.refl ρ, HExt.refl H, hv, by rw [← hv.len, List.take_length], fun f h => by simp at h⟩
  | f :: fs, o, ρ, H, a0, ht, hf, hi, hG, ho, hv => by
    simp only [tiles, Bool.and_eq_true, beq_iff_eq] at ht
    obtain ⟨hoff, ht⟩ := ht
    have hle : ∀ (gs : List Field) (o n : Nat), tiles P gs o n = true → o ≤ n := by
      intro gs
      induction gs with
      | nil => intro o n h; simp [tiles] at h; omega
      | cons g gs ih => intro o n h; simp only [tiles, Bool.and_eq_true] at h; have := ih _ _ h.2; omega
    have hle' := hle _ _ _ ht
    obtain ⟨ρ1, H1, a1, i1, e1, x1, v1, p1⟩ := hf f (by simp) ρ H hi hG
    rw [hoff] at v1
    have hl0 : a0.length = o := by rw [hv.len]; simp; omega
    have hl1 : a1.length = P.cellsOf f.type := by rw [v1.len]; simp; omega
    have hv' : VRels ρ1 (a0 ++ a1) (cs.take (o + P.cellsOf f.type)) := by
      rw [List.take_add]
      exact (VRels.mono e1 _ _ hv).append v1
    obtain ⟨ρ2, H2, acs, i2, e2, x2, v2, t2, p2⟩ := reads_fields fs (o + P.cellsOf f.type) ρ1 H1 (a0 ++ a1) ht (fun g hg => hf g (by simp [hg])) i1 (Nat.le_trans hG x1.1) hle' hv'
    refine ⟨ρ2, H2, acs, i2, e1.trans e2, x1.trans x2, v2, ?_, ?_⟩
    · have := congrArg (List.take o) t2
      rw [List.take_take, Nat.min_eq_left (by omega), List.take_append_of_le_length (by omega), ← hl0, List.take_length] at this
      rw [← hl0]; exact this
    · intro g hg
      rcases List.mem_cons.1 hg with rfl | hg
      · have := congrArg (List.drop o) t2
        rw [← List.take_drop, List.drop_append_of_le_length (by omega), List.drop_of_length_le (by omega : a0.length ≤ o), List.nil_append] at this
        rw [hoff, this]
        exact Pic.mono x2 _ _ _ p1
      · exact p2 g hg

theorem cells?_facts {w : World} {a : Addr} {n : Nat} {cs : List Value} (h : w.cells? 0 a n = some cs) : cs.length = n ∧ ∀ i, i < n → w.cell? (a.add i) = cs[i]? := by
  simp only [World.cells?, Nat.zero_le, if_true] at h
  refine ⟨by simpa using mapM_some_length h, fun i hi => ?_⟩
  have := mapM_some_get h i i (by simp [hi])
  exact this

theorem cell?_block {w : World} {a : Addr} {v : Value} (h : w.cell? a = some v) : a.spot = none ∧ ∃ C e fr, w.heap[a.block]? = some (.cells C e fr) ∧ C[a.off]? = some v := by
  unfold World.cell? at h
  split at h
  · rename_i C e fr hh
    split at h
    · cases h
    · rename_i hs
      exact ⟨by simpa using hs, C, e, fr, hh, h⟩
  · cases h

end Go.Abs

/- Arguments read: the induction over the types. -/
namespace Go.Abs
set_option linter.unusedVariables false

section
variable {D : Type} {enc : TypeId × Value → D} {P : Program} {w : World}

theorem trod_bool {fuel : Nat} {t : TypeId} {cs : List Value} {x : DataW D × List MemPlace} (hu : P.underlying t = some .bool)
    (h : DataW.trod enc P w 0 (fun _ => true) true (fuel + 1) t cs = some x) : ∃ b, cs = [.bool b] := by
  unfold DataW.trod at h
  rw [hu] at h
  split at h <;> simp_all

theorem trod_int {fuel : Nat} {t : TypeId} {k : IntKind} {cs : List Value} {x : DataW D × List MemPlace} (hu : P.underlying t = some (.int k))
    (h : DataW.trod enc P w 0 (fun _ => true) true (fuel + 1) t cs = some x) : ∃ z, cs = [.int k z] ∧ (Lit.int k z).wf = true := by
  unfold DataW.trod at h
  rw [hu] at h
  split at h <;> simp_all

theorem trod_string {fuel : Nat} {t : TypeId} {cs : List Value} {x : DataW D × List MemPlace} (hu : P.underlying t = some .string)
    (h : DataW.trod enc P w 0 (fun _ => true) true (fuel + 1) t cs = some x) : ∃ s, cs = [.string s] ∧ s.size ≤ maxLen := by
  unfold DataW.trod at h
  rw [hu] at h
  split at h <;> simp_all

theorem trod_struct {fuel : Nat} {t : TypeId} {fs : Array Field} {cs : List Value} {x : DataW D × List MemPlace} (hu : P.underlying t = some (.struct fs))
    (h : DataW.trod enc P w 0 (fun _ => true) true (fuel + 1) t cs = some x) :
    cs.length = P.cellsOf t ∧ ∀ f ∈ fs.toList, ∃ y, DataW.trod enc P w 0 (fun _ => true) true fuel f.type ((cs.drop f.offset).take (P.cellsOf f.type)) = some y := by
  unfold DataW.trod at h
  rw [hu] at h
  split at h <;> try (simp_all; done)
  rename_i fs' heq
  injection heq with heq
  injection heq with heq
  subst heq
  split at h
  · rename_i hl
    refine ⟨hl, fun f hf => ?_⟩
    rw [Option.map_eq_some_iff] at h
    obtain ⟨xs, hxs, _⟩ := h
    obtain ⟨i, hi⟩ := List.getElem?_of_mem hf
    have := mapM_some_get hxs i f hi
    have hlt : i < xs.length := by rw [mapM_some_length hxs]; exact (List.getElem?_eq_some_iff.1 hi).1
    exact ⟨xs[i], by rw [this]; simp [hlt]⟩
  · cases h

theorem trod_array {fuel : Nat} {t e : TypeId} {m : Nat} {cs : List Value} {x : DataW D × List MemPlace} (hu : P.underlying t = some (.array m e))
    (h : DataW.trod enc P w 0 (fun _ => true) true (fuel + 1) t cs = some x) :
    cs.length = P.cellsOf t ∧ ∀ i, i < m → ∃ y, DataW.trod enc P w 0 (fun _ => true) true fuel e ((cs.drop (i * P.cellsOf e)).take (P.cellsOf e)) = some y := by
  unfold DataW.trod at h
  rw [hu] at h
  split at h <;> try (simp_all; done)
  rename_i m' e' heq
  injection heq with heq
  injection heq with h1 h2
  subst h1; subst h2
  split at h
  · rename_i hl
    refine ⟨hl, fun i hi => ?_⟩
    rw [Option.map_eq_some_iff] at h
    obtain ⟨xs, hxs, _⟩ := h
    have := mapM_some_get hxs i i (by simp [hi])
    have hlt : i < xs.length := by rw [mapM_some_length hxs]; simpa using hi
    exact ⟨xs[i], by rw [this]; simp [hlt]⟩
  · cases h

theorem trod_slice {fuel : Nat} {t e : TypeId} {cs : List Value} {x : DataW D × List MemPlace} (hu : P.underlying t = some (.slice e))
    (h : DataW.trod enc P w 0 (fun _ => true) true (fuel + 1) t cs = some x) :
    cs = [.slice none 0 0] ∨ ∃ a len cap, cs = [.slice (some a) len cap] ∧ len ≤ cap ∧ cap ≤ maxLen ∧
      ∀ i, i < cap → ∃ ds y, w.cells? 0 (a.add (i * P.cellsOf e)) (P.cellsOf e) = some ds ∧ DataW.trod enc P w 0 (fun _ => true) true fuel e ds = some y := by
  unfold DataW.trod at h
  rw [hu] at h
  split at h <;> try (simp_all; done)
  rename_i e' a len cap heq
  injection heq with heq
  injection heq with h1
  subst h1
  right
  refine ⟨a, len, cap, rfl, ?_⟩
  simp only [if_true] at h
  split at h
  · rename_i hl
    obtain ⟨_, hlc, hcm⟩ := hl
    refine ⟨hlc, hcm, fun i hi => ?_⟩
    rw [Option.bind_eq_some_iff] at h
    obtain ⟨xs, hxs, h⟩ := h
    rw [Option.map_eq_some_iff] at h
    obtain ⟨ys, hys, _⟩ := h
    by_cases hil : i < len
    · have := mapM_some_get hxs i i (by simp [hil])
      have hlt : i < xs.length := by rw [mapM_some_length hxs]; simpa using hil
      rw [List.getElem?_eq_getElem hlt, Option.bind_eq_some_iff] at this
      obtain ⟨ds, h1, h2⟩ := this
      exact ⟨ds, _, h1, h2⟩
    · have := mapM_some_get hys (i - len) (i - len) (by rw [List.getElem?_range]; omega)
      have hlt : i - len < ys.length := by rw [mapM_some_length hys]; simp; omega
      rw [List.getElem?_eq_getElem hlt, Option.bind_eq_some_iff] at this
      obtain ⟨ds, h1, h2⟩ := this
      have e : len + (i - len) = i := by omega
      rw [e] at h1
      exact ⟨ds, _, h1, h2⟩
  · cases h

theorem reads_slice {n : Nat} {t e : TypeId} {a : Addr} {len cap : Nat} (hu : P.underlying t = some (.slice e)) (hs : 0 < P.cellsOf e) (hlc : len ≤ cap) (hcm : cap ≤ maxLen)
    (hel : ∀ i, i < cap → ∃ ds, w.cells? 0 (a.add (i * P.cellsOf e)) (P.cellsOf e) = some ds ∧ ∀ (ρ : Map) (H : Heap), Held P.globals.size ρ H w → P.globals.size ≤ H.next → Reads P w ρ H n e ds)
    (ρ : Map) (H : Heap) (hi : Held P.globals.size ρ H w) (hG : P.globals.size ≤ H.next) : Reads P w ρ H (n + 1) t [.slice (some a) len cap] := by
  by_cases hc0 : cap = 0
  · subst hc0
    have hl0 : len = 0 := by omega
    subst hl0
    have hnone : ρ H.next = none := hi.free _ (Nat.le_refl _)
    refine ⟨upd ρ H.next ⟨a.block, a.off, 0⟩, H.push .dead, [.slice (some (H.next, 0)) 0 0 (some (P.cellsOf e))], hi.add hG _ _ rfl trivial, Ext.upd _ hnone, HExt.push _, ?_, ?_⟩
    · exact ⟨_, [], rfl, ⟨_, a, 0, upd_same _ _ _, rfl, Nat.le_refl _, Nat.le_refl _, .inl rfl, .inl rfl⟩, rfl⟩
    · unfold Pic
      rw [hu]
      exact .inr ⟨H.next, 0, [], rfl, by simp, by simp [maxLen], by simp, fun h => by omega, fun i h => by omega⟩
  · generalize hsz : P.cellsOf e = s at *
    have hcell : ∀ i j, i < cap → j < s → ∃ ds, w.cells? 0 (a.add (i * s)) s = some ds ∧ w.cell? ((a.add (i * s)).add j) = ds[j]? ∧ ds.length = s := by
      intro i j hic hjs
      obtain ⟨ds, hd, _⟩ := hel i hic
      obtain ⟨h1, h2⟩ := cells?_facts hd
      exact ⟨ds, hd, h2 j hjs, h1⟩
    obtain ⟨ds0, _, h00, hl0⟩ := hcell 0 0 (by omega) hs
    rw [List.getElem?_eq_getElem (by omega)] at h00
    rw [Nat.zero_mul, show (a.add 0).add 0 = a from rfl] at h00
    obtain ⟨hspot, C, ct, fr, hC, _⟩ := cell?_block h00
    obtain ⟨b, o, sp⟩ := a
    simp only [] at hspot hC
    subst hspot
    have hval : ∀ i j, i < cap → j < s → ∃ ds, w.cells? 0 (Addr.add ⟨b, o, none⟩ (i * s)) s = some ds ∧ C[o + i * s + j]? = ds[j]? ∧ ds.length = s := by
      intro i j h1 h2
      obtain ⟨ds, hd, he, hl⟩ := hcell i j h1 h2
      refine ⟨ds, hd, ?_, hl⟩
      rw [← he]
      have e1 : (Addr.add ⟨b, o, none⟩ (i * s)).add j = ⟨b, o + i * s + j, none⟩ := by
        simp only [Addr.add]
        split <;> split <;> simp_all
      rw [e1]
      simp [World.cell?, hC]
    have hsize : o + cap * s ≤ C.size := by
      obtain ⟨ds, _, he, hl⟩ := hval (cap - 1) (s - 1) (by omega) (by omega)
      rw [List.getElem?_eq_getElem (by omega)] at he
      have h1 := (Array.getElem?_eq_some_iff.1 he).1
      have h2 : (cap - 1) * s + s = cap * s := by
        have : cap = (cap - 1) + 1 := by omega
        conv => rhs; rw [this, Nat.add_mul]
        omega
      omega
    have hls : len * s ≤ cap * s := Nat.mul_le_mul_right _ hlc
    have hcsl : ((C.toList.drop o).take (len * s)).length = len * s := by simp; omega
    have hpiece : ∀ i, (i + 1) * s ≤ len * s → ∃ ds, w.cells? 0 (Addr.add ⟨b, o, none⟩ (i * s)) s = some ds ∧ (((C.toList.drop o).take (len * s)).drop (i * s)).take s = ds := by
      intro i hil
      have hi' : i < len := by
        rcases Nat.lt_or_ge i len with h | h
        · exact h
        · have : (len + 1) * s ≤ (i + 1) * s := Nat.mul_le_mul_right _ (by omega)
          rw [Nat.add_mul] at this
          omega
      obtain ⟨ds, hd, _, hdl⟩ := hval i 0 (by omega) hs
      refine ⟨ds, hd, ?_⟩
      rw [Nat.add_mul] at hil
      apply List.ext_getElem?
      intro j
      by_cases hj : j < s
      · obtain ⟨ds', hd', he, _⟩ := hval i j (by omega) hj
        have : ds' = ds := Option.some.inj (hd'.symm.trans hd)
        subst this
        rw [List.getElem?_take, if_pos hj, List.getElem?_drop, List.getElem?_take, if_pos (by omega), List.getElem?_drop, Array.getElem?_toList, ← he]
        congr 1
        omega
      · rw [List.getElem?_eq_none (by simp; omega), List.getElem?_eq_none (by omega)]
    obtain ⟨ρ1, H1, c, i1, e1, x1, v1, p1⟩ := reads_pieces (P := P) (w := w) (n := n) (e := e) (s := s) (cs := (C.toList.drop o).take (len * s))
      (fun ρ H i hle h hg => by
        rw [hcsl] at hle
        obtain ⟨ds, hd, he⟩ := hpiece i hle
        rw [he]
        have hi' : i < cap := by
          rcases Nat.lt_or_ge i cap with h | h
          · exact h
          · have : (cap + 1) * s ≤ (i + 1) * s := Nat.mul_le_mul_right _ (by omega)
            rw [Nat.add_mul] at this
            omega
        obtain ⟨ds', hd', hr⟩ := hel i hi'
        have : ds' = ds := Option.some.inj (hd'.symm.trans hd)
        subst this
        exact hr ρ H h hg) len ρ H (by omega) hi hG
    rw [List.take_of_length_le (by omega)] at v1
    have hcl : c.length = len * s := by rw [v1.len, hcsl]
    have hnone : ρ1 H1.next = none := i1.free _ (Nat.le_refl _)
    refine ⟨upd ρ1 H1.next ⟨b, o, cap * s⟩, H1.push (.cells c e false false), [.slice (some (H1.next, 0)) len len (some s)], i1.add (Nat.le_trans hG x1.1) _ _ rfl ?_, e1.trans (Ext.upd _ hnone), x1.trans (HExt.push _), ?_, ?_⟩
    · refine ⟨_, C, ct, fr, upd_same _ _ _, hC, ?_, by simp only []; omega, by simp only []; omega, fun h => by cases h⟩
      intro i av hav
      obtain ⟨v, hv, hr⟩ := VRels.get i av v1 hav
      refine ⟨v, ?_, VRel.mono (Ext.upd _ hnone) _ _ hr⟩
      have hil : i < len * s := by rw [← hcl]; exact (List.getElem?_eq_some_iff.1 hav).1
      rw [List.getElem?_take, if_pos hil, List.getElem?_drop, Array.getElem?_toList] at hv
      exact hv
    · exact ⟨_, [], rfl, ⟨_, _, cap, upd_same _ _ _, rfl, Nat.le_refl _, hlc, .inr rfl, .inr ⟨s, rfl, by simp⟩⟩, rfl⟩
    · unfold Pic
      rw [hu]
      simp only [hsz]
      refine .inr ⟨H1.next, len, c, rfl, by simp, by omega, hcl, fun _ => by rw [Heap.get_push, if_pos rfl], fun i hil => ?_⟩
      exact Pic.mono (HExt.push _) _ _ _ (p1 i hil)

theorem reads_ok : ∀ (n : Nat) (t : TypeId) (cs : List Value) (fuel : Nat) (x : DataW D × List MemPlace), readable P n t = true → DataW.trod enc P w 0 (fun _ => true) true fuel t cs = some x →
    ∀ (ρ : Map) (H : Heap), Held P.globals.size ρ H w → P.globals.size ≤ H.next → Reads P w ρ H n t cs
  | 0, t, cs, fuel, x, hr, h, ρ, H, hi, hG => by cases hr
  | n + 1, t, cs, 0, x, hr, h, ρ, H, hi, hG => by cases h
  | n + 1, t, cs, fuel + 1, x, hr, h, ρ, H, hi, hG => by
    unfold readable at hr
    split at hr
    · rename_i hu
      obtain ⟨b, rfl⟩ := trod_bool hu h
      exact ⟨ρ, H, [.bool b], hi, Ext.refl ρ, HExt.refl H, ⟨_, [], rfl, rfl, rfl⟩, by unfold Pic; rw [hu]; exact ⟨b, rfl⟩⟩
    · rename_i k hu
      obtain ⟨z, rfl, hz⟩ := trod_int hu h
      exact ⟨ρ, H, [.int k z], hi, Ext.refl ρ, HExt.refl H, ⟨_, [], rfl, rfl, rfl⟩, by unfold Pic; rw [hu]; exact ⟨z, rfl, hz⟩⟩
    · rename_i hu
      obtain ⟨s, rfl, hs⟩ := trod_string hu h
      refine ⟨ρ, H, [.str s.data.toList], hi, Ext.refl ρ, HExt.refl H, ⟨_, [], rfl, ?_, rfl⟩, by unfold Pic; rw [hu]; exact ⟨_, rfl, by simpa using hs⟩⟩
      show Value.string s = _
      simp
    · rename_i e hu
      simp only [Bool.and_eq_true, decide_eq_true_eq] at hr
      rcases trod_slice hu h with rfl | ⟨a, len, cap, rfl, hlc, hcm, hel⟩
      · exact ⟨ρ, H, [.slice none 0 0 none], hi, Ext.refl ρ, HExt.refl H, ⟨_, [], rfl, ⟨rfl, rfl, rfl⟩, rfl⟩, by unfold Pic; rw [hu]; exact .inl rfl⟩
      · refine reads_slice hu hr.1 hlc hcm (fun i hi => ?_) ρ H hi hG
        obtain ⟨ds, y, hd, hy⟩ := hel i hi
        exact ⟨ds, hd, fun ρ H h g => reads_ok n e ds fuel y hr.2 hy ρ H h g⟩
    · rename_i fs hu
      simp only [Bool.and_eq_true, List.all_eq_true] at hr
      obtain ⟨hl, hf⟩ := trod_struct hu h
      obtain ⟨ρ', H', acs, i1, e1, x1, v1, _, p1⟩ := reads_fields (P := P) (w := w) (n := n) (cs := cs) fs.toList 0 ρ H [] (by rw [hl]; exact hr.1)
        (fun f hm ρ H h g => by
          obtain ⟨y, hy⟩ := hf f hm
          exact reads_ok n _ _ fuel y (hr.2 f hm) hy ρ H h g) hi hG (Nat.zero_le _) (by simp [VRels])
      exact ⟨ρ', H', acs, i1, e1, x1, v1, by unfold Pic; rw [hu]; exact ⟨by rw [v1.len, hl], p1⟩⟩
    · rename_i m e hu
      simp only [Bool.and_eq_true, decide_eq_true_eq, beq_iff_eq] at hr
      obtain ⟨⟨hs, hm⟩, hr⟩ := hr
      obtain ⟨hl, hf⟩ := trod_array hu h
      obtain ⟨ρ', H', acs, i1, e1, x1, v1, p1⟩ := reads_pieces (P := P) (w := w) (n := n) (e := e) (s := P.cellsOf e) (cs := cs)
        (fun ρ H i hle h g => by
          have hi' : i < m := by
            rcases Nat.lt_or_ge i m with h | h
            · exact h
            · have : (m + 1) * P.cellsOf e ≤ (i + 1) * P.cellsOf e := Nat.mul_le_mul_right _ (by omega)
              rw [Nat.add_mul] at this
              omega
          obtain ⟨y, hy⟩ := hf i hi'
          exact reads_ok n _ _ fuel y hr hy ρ H h g) m ρ H (by omega) hi hG
      rw [List.take_of_length_le (by omega)] at v1
      exact ⟨ρ', H', acs, i1, e1, x1, v1, by unfold Pic; rw [hu]; exact ⟨by rw [v1.len, hl], p1⟩⟩
    · cases hr

end
end Go.Abs

/- Each operation of the model comes to what the abstract machine says: parts, places, slices, numbers, strings. -/
namespace Go.Abs
set_option linter.unusedVariables false
set_option linter.unusedSimpArgs false

section
variable {P : Program} {a : Act} {ρ : Map}

theorem und_run {t : TypeId} {d : TypeDesc} (h : P.underlying t = some d) (w : World) : (underlying t).run P w = .ok d w := by
  simp [underlying, h]

/-! ## parts -/
theorem part_run {t : TypeId} {cs : List AV} {ds : Array Value} {off : Nat} {v : AV} (h : partA P t cs off = some v) (hc : VRels ρ cs ds.toList) :
    ∃ u, (∀ w, (part t ds off).run P w = .ok u w) ∧ VRel ρ v u := by
  have hl := hc.length
  simp at hl
  unfold partA at h
  split at h
  · rename_i n hg hn
    split at h
    · rename_i hle
      injection h with h; subst h
      refine ⟨.agg (ds.extract off (off + n)), fun w => by simp [part, tagg_run hg, tsz_run hn], _, rfl, ?_⟩
      have := (hc.drop off).take n
      simpa [Array.toList_extract, List.extract_eq_take_drop] using this
    · exact absurd h (by simp)
  · rename_i hg
    obtain ⟨u, hu, r⟩ := hc.get off v h
    refine ⟨u, fun w => ?_, r⟩
    have : ds[off]? = some u := by simpa using hu
    simp [part, tagg_run hg, this]
  · exact absurd h (by simp)

theorem field_ok {t : TypeId} {fields : Array Field} {cs : List AV} {f : Nat} {fd : Field} {v : AV} {u : Value} (hd : P.underlying t = some (.struct fields)) (hf : fields[f]? = some fd)
    (h : partA P fd.type cs fd.offset = some v) (hv : VRel ρ (.agg cs) u) : ∃ r, (∀ w, (Instr.field t u f).run P w = .ok r w) ∧ VRel ρ v r := by
  obtain ⟨ds, rfl, hc⟩ := hv
  obtain ⟨r, hr, hrel⟩ := part_run h hc
  exact ⟨r, fun w => by simp [Instr.field, und_run hd, hf, asAgg, hr], hrel⟩

/-! ## places -/
theorem fieldAddr_ok {s : TypeId} {fields : Array Field} {f : Nat} {fd : Field} {b o : Nat} {u : Value} (hd : P.underlying s = some (.struct fields)) (hf : fields[f]? = some fd)
    (hz : ¬ (tsz P fd.type).getD 0 = 0) (hv : VRel ρ (.ptr (some (b, o))) u) : ∃ r, (∀ w, (Instr.fieldAt s u f).run P w = .ok r w) ∧ VRel ρ (.ptr (some (b, o + fd.offset))) r := by
  obtain ⟨p, hp, rfl⟩ := hv
  cases hn : tsz P fd.type with
  | none => rw [hn] at hz; exact absurd rfl hz
  | some n =>
    rw [hn] at hz
    refine ⟨.pointer (some ⟨p.blk, p.off + (o + fd.offset), none⟩), fun w => ?_, p, hp, rfl⟩
    have hz' : ¬ n = 0 := hz
    simp [Instr.fieldAt, und_run hd, hf, Instr.sureAddr, fieldPlace, tsz_run hn, hz', addr_add, Nat.add_assoc]

theorem indexAddr_ok {t : TypeId} {x ix v : AV} {ux ui : Value} (h : indexAddrSem P t x ix = some v) (hx : VRel ρ x ux) (hi : VRel ρ ix ui) :
    ∃ r, (∀ w, (Instr.indexAt t ux ui).run P w = .ok r w) ∧ VRel ρ v r := by
  unfold indexAddrSem at h
  split at h
  · rename_i len elem b o k i hd
    cases hn : tsz P elem with
    | none => simp [hn] at h
    | some size =>
      simp only [hn] at h
      split at h
      · rename_i hc
        injection h with h; subst h
        obtain ⟨p, hp, rfl⟩ := hx
        cases hi
        refine ⟨.pointer (some ⟨p.blk, p.off + (o + i.toNat * size), none⟩), fun w => ?_, p, hp, rfl⟩
        simp [Instr.indexAt, asIntOf, und_run hd, Instr.sureAddr, hc, tsz_run hn, addr_add, Nat.add_assoc]
      · exact absurd h (by simp)
  · rename_i elem b o len c sl k i hd
    cases hn : tsz P elem with
    | none => simp [hn] at h
    | some size =>
      simp only [hn] at h
      split at h
      · rename_i hc
        injection h with h; subst h
        obtain ⟨p, y, c', hp, rfl, h1, h2, h3, _⟩ := hx
        cases hi
        have hy : y = ⟨p.blk, p.off + o, none⟩ := by
          rcases h3 with h3 | h3
          · omega
          · exact h3
        subst hy
        refine ⟨.pointer (some ⟨p.blk, p.off + (o + i.toNat * size), none⟩), fun w => ?_, p, hp, rfl⟩
        simp [Instr.indexAt, asIntOf, und_run hd, hc, tsz_run hn, addr_add, Nat.add_assoc]
      · exact absurd h (by simp)
  · exact absurd h (by simp)

theorem index_ok {t : TypeId} {x ix v : AV} {ux ui : Value} (h : indexSem P t x ix = some v) (hx : VRel ρ x ux) (hi : VRel ρ ix ui) :
    ∃ r, (∀ w, (Instr.index t ux ui).run P w = .ok r w) ∧ VRel ρ v r := by
  unfold indexSem at h
  split at h
  · rename_i len elem cs k i hd
    cases hn : tsz P elem with
    | none => simp [hn] at h
    | some size =>
      simp only [hn] at h
      split at h
      · rename_i hc
        obtain ⟨ds, rfl, hcs⟩ := hx
        cases hi
        obtain ⟨r, hr, hrel⟩ := part_run h hcs
        exact ⟨r, fun w => by simp [Instr.index, asIntOf, und_run hd, hc, tsz_run hn, hr], hrel⟩
      · exact absurd h (by simp)
  · rename_i s k i hd
    split at h
    · rename_i h0
      cases hb : s[i.toNat]? with
      | none => simp [hb] at h
      | some c =>
        simp only [hb, Option.some.injEq] at h
        subst h
        cases hx; cases hi
        refine ⟨.int .u8 c.toNat, fun w => ?_, rfl⟩
        have : (⟨s.toArray⟩ : ByteArray)[i.toNat]? = some c := by
          obtain ⟨hlt, he⟩ := List.getElem?_eq_some_iff.1 hb
          rw [getElem?_pos (⟨s.toArray⟩ : ByteArray) i.toNat (by simpa [ByteArray.size] using hlt)]
          congr 1
        simp [Instr.index, asIntOf, und_run hd, h0, this]
    · exact absurd h (by simp)
  · exact absurd h (by simp)

/-! ## slices of what there is -/
theorem bound_ok {x : AV} {y n : Nat} {u : Value} {code : BoundsCode} (h : boundA x y = some n) (hx : VRel ρ x u) : n ≤ y ∧ ∀ z, y ≤ z → ∀ w, (Instr.sliceBound u z code).run P w = .ok n w := by
  unfold boundA at h
  split at h
  · rename_i k i
    split at h
    · rename_i hc
      injection h with h; subst h
      cases hx
      refine ⟨by omega, fun z hz w => ?_⟩
      have : 0 ≤ i ∧ i ≤ (z : Int) := by omega
      simp [Instr.sliceBound, asIntOf, this]
    · exact absurd h (by simp)
  · exact absurd h (by simp)

/-- An optional operand and its value. -/
def ORelV (ρ : Map) : Option AV → Option Value → Prop
  | none, none => True
  | some a, some v => VRel ρ a v
  | _, _ => False

theorem evOpt_rel {T : List AV} (hf : Frel ρ T a) (hg : Glob P ρ) {x : Option Operand} {v : Option AV} (h : evOpt P T x = some v) : ORelV ρ v (x.map a.eval) := by
  cases x with
  | none => simp only [evOpt, Option.some.injEq] at h; subst h; exact True.intro
  | some x =>
    simp only [evOpt] at h
    cases hx : ev P T x with
    | none => simp [hx] at h
    | some y => simp [hx] at h; subst h; exact ev_rel hf hg hx

/-- The bounds of a slice expression; the world's capacity may be greater, where none is named. -/
theorem bounds_ok {len cap cap' l h m : Nat} {lo hi mx : Option AV} {lo' hi' mx' : Option Value} {isSlice : Bool} (hb : boundsA len cap lo hi mx = some (l, h, m))
    (hl : ORelV ρ lo lo') (hh : ORelV ρ hi hi') (hm : ORelV ρ mx mx') (hc : cap ≤ cap') (hlen : len ≤ cap) :
    l ≤ h ∧ h ≤ m ∧ m ≤ cap ∧ ∀ w, (Instr.sliceBounds isSlice len cap' lo' hi' mx').run P w = .ok (l, h, if mx.isSome then m else cap') w := by
  unfold boundsA at hb
  cases mx with
  | none =>
    cases mx' with
    | some _ => exact hm.elim
    | none =>
      simp only [] at hb
      cases hi with
      | none =>
        cases hi' with
        | some _ => exact hh.elim
        | none =>
          simp only [] at hb
          cases lo with
          | none =>
            cases lo' with
            | some _ => exact hl.elim
            | none =>
              simp only [Option.some.injEq, Prod.mk.injEq] at hb
              obtain ⟨rfl, rfl, rfl⟩ := hb
              exact ⟨Nat.zero_le _, hlen, Nat.le_refl _, fun w => by simp [Instr.sliceBounds]⟩
          | some x =>
            cases lo' with
            | none => exact hl.elim
            | some u =>
              simp only [] at hb
              cases hx : boundA x len with
              | none => simp [hx] at hb
              | some n =>
                simp only [hx, Option.some.injEq, Prod.mk.injEq] at hb
                obtain ⟨rfl, rfl, rfl⟩ := hb
                have hr := bound_ok (P := P) (code := .sliceB) hx hl
                exact ⟨hr.1, hlen, Nat.le_refl _, fun w => by simp [Instr.sliceBounds, hr.2 len (Nat.le_refl _)]⟩
      | some y =>
        cases hi' with
        | none => exact hh.elim
        | some uy =>
          simp only [] at hb
          cases hy : boundA y cap with
          | none => simp [hy] at hb
          | some n =>
            simp only [hy] at hb
            have hr := fun code => bound_ok (P := P) (code := code) hy hh
            cases lo with
            | none =>
              cases lo' with
              | some _ => exact hl.elim
              | none =>
                simp only [Option.some.injEq, Prod.mk.injEq] at hb
                obtain ⟨rfl, rfl, rfl⟩ := hb
                exact ⟨Nat.zero_le _, (hr .sliceB).1, Nat.le_refl _, fun w => by simp [Instr.sliceBounds, (hr _).2 cap' hc]⟩
            | some x =>
              cases lo' with
              | none => exact hl.elim
              | some u =>
                simp only [] at hb
                cases hx : boundA x n with
                | none => simp [hx] at hb
                | some k =>
                  simp only [hx, Option.some.injEq, Prod.mk.injEq] at hb
                  obtain ⟨rfl, rfl, rfl⟩ := hb
                  have hr2 := bound_ok (P := P) (code := .sliceB) hx hl
                  exact ⟨hr2.1, (hr .sliceB).1, Nat.le_refl _, fun w => by simp [Instr.sliceBounds, (hr _).2 cap' hc, hr2.2 n (Nat.le_refl _)]⟩
  | some z =>
    cases mx' with
    | none => exact hm.elim
    | some uz =>
      simp only [] at hb
      cases hz : boundA z cap with
      | none => simp [hz] at hb
      | some mm =>
        simp only [hz] at hb
        have hr0 := fun code => bound_ok (P := P) (code := code) hz hm
        cases hi with
        | none => simp at hb
        | some y =>
          cases hi' with
          | none => exact hh.elim
          | some uy =>
            simp only [] at hb
            cases hy : boundA y mm with
            | none => simp [hy] at hb
            | some n =>
              simp only [hy] at hb
              have hr := fun code => bound_ok (P := P) (code := code) hy hh
              cases lo with
              | none =>
                cases lo' with
                | some _ => exact hl.elim
                | none =>
                  simp only [Option.some.injEq, Prod.mk.injEq] at hb
                  obtain ⟨rfl, rfl, rfl⟩ := hb
                  exact ⟨Nat.zero_le _, (hr .sliceB).1, (hr0 .sliceB).1, fun w => by simp [Instr.sliceBounds, (hr0 _).2 cap' hc, (hr _).2 mm (Nat.le_refl _)]⟩
              | some x =>
                cases lo' with
                | none => exact hl.elim
                | some u =>
                  simp only [] at hb
                  cases hx : boundA x n with
                  | none => simp [hx] at hb
                  | some k =>
                    simp only [hx, Option.some.injEq, Prod.mk.injEq] at hb
                    obtain ⟨rfl, rfl, rfl⟩ := hb
                    have hr2 := fun code => bound_ok (P := P) (code := code) hx hl
                    exact ⟨(hr2 .sliceB).1, (hr .sliceB).1, (hr0 .sliceB).1, fun w => by simp [Instr.sliceBounds, (hr0 _).2 cap' hc, (hr _).2 mm (Nat.le_refl _), (hr2 _).2 n (Nat.le_refl _)]⟩

theorem slice_ok {t : TypeId} {x v : AV} {lo hi mx : Option AV} {ux : Value} {lo' hi' mx' : Option Value} (h : sliceSem P t x lo hi mx = some v) (hx : VRel ρ x ux)
    (hl : ORelV ρ lo lo') (hh : ORelV ρ hi hi') (hm : ORelV ρ mx mx') : ∃ r, (∀ w, (Instr.sliceAt t ux lo' hi' mx').run P w = .ok r w) ∧ VRel ρ v r := by
  unfold sliceSem at h
  split at h
  · rename_i n elem b o hd
    split at h
    · rename_i l hh2 m size hb hn
      injection h with h; subst h
      obtain ⟨p, hp, rfl⟩ := hx
      obtain ⟨h1, h2, h3, hrun⟩ := bounds_ok (P := P) (cap' := n) (isSlice := false) hb hl hh hm (Nat.le_refl _) (Nat.le_refl _)
      have hmm : (if mx.isSome then m else n) = m ∨ (mx.isSome = false ∧ m = n) := by
        cases mx with
        | some _ => exact .inl rfl
        | none =>
          right
          refine ⟨rfl, ?_⟩
          unfold boundsA at hb
          simp only [] at hb
          (repeat' split at hb) <;> simp_all
      have hm2 : (if mx.isSome then m else n) = m := by
        rcases hmm with h | ⟨h, rfl⟩
        · exact h
        · simp [h]
      rw [hm2] at hrun
      refine ⟨.slice (some (if m = l then ⟨p.blk, p.off + o, none⟩ else ⟨p.blk, p.off + o + l * size, none⟩)) (hh2 - l) (m - l), fun w => ?_, p, _, m - l, hp, rfl, by omega, Nat.le_refl _, ?_, .inl rfl⟩
      · simp [Instr.sliceAt, und_run hd, Instr.sureAddr, hrun, tsz_run hn, addr_add]
      · by_cases e : m = l
        · left; omega
        · right; simp [e, Nat.add_assoc]
    · exact absurd h (by simp)
  · rename_i s hd
    cases mx with
    | some _ => simp at h
    | none =>
      cases mx' with
      | some _ => exact hm.elim
      | none =>
        cases hb : boundsA s.length s.length lo hi none with
        | none => simp [hb] at h
        | some q =>
          obtain ⟨l, hh2, m⟩ := q
          simp only [hb, Option.some.injEq] at h
          subst h
          cases hx
          obtain ⟨h1, h2, h3, hrun⟩ := bounds_ok (P := P) (cap' := s.length) (isSlice := false) hb hl hh hm (Nat.le_refl _) (Nat.le_refl _)
          refine ⟨.string ((⟨s.toArray⟩ : ByteArray).extract l hh2), fun w => ?_, ?_⟩
          · have hs : (⟨s.toArray⟩ : ByteArray).size = s.length := by simp [ByteArray.size]
            simp only [Instr.sliceAt, Sem.run_bind, und_run hd, Result.andThen_ok, Instr.slice, Option.isSome_none, Bool.false_eq_true, if_false, hs, hrun, Sem.run_pure]
          · show Value.string _ = Value.string _
            congr 1
            apply ByteArray.ext
            simp only [ByteArray.data_extract]
            apply Array.ext'
            simp [Array.toList_extract, List.extract_eq_take_drop, List.drop_take]
  · rename_i elem sa len cap sl hd
    split at h
    · rename_i l hh2 m size hb hn
      cases sa with
      | none =>
        simp only [Option.some.injEq] at h
        subst h
        obtain ⟨h1, h2, rfl⟩ := hx
        subst h1; subst h2
        obtain ⟨h1, h2, h3, hrun⟩ := bounds_ok (P := P) (cap' := 0) (isSlice := true) hb hl hh hm (Nat.le_refl _) (Nat.le_refl _)
        refine ⟨.slice none 0 0, fun w => ?_, rfl, rfl, rfl⟩
        have e1 : m = 0 := by omega
        have e2 : hh2 = 0 := by omega
        have e3 : l = 0 := by omega
        subst e1; subst e2; subst e3
        have hz : (if mx.isSome then 0 else 0) = 0 := by split <;> rfl
        rw [hz] at hrun
        simp [Instr.sliceAt, und_run hd, Instr.slice, hrun, tsz_run hn]
      | some q =>
        obtain ⟨b, o⟩ := q
        simp only [] at h
        split at h
        · rename_i hsl
          injection h with h; subst h
          obtain ⟨p, y, c', hp, rfl, g1, g2, g3, g4⟩ := hx
          obtain ⟨h1, h2, h3, hrun⟩ := bounds_ok (P := P) (cap' := c') (isSlice := true) hb hl hh hm g2 g1
          generalize hmm : (if mx.isSome then m else c') = m' at hrun
          refine ⟨.slice (some (if m' = l then y else y.add (l * size))) (hh2 - l) (m' - l), fun w => ?_, p, _, m' - l, hp, rfl, by omega, ?_, ?_, ?_⟩
          · simp [Instr.sliceAt, und_run hd, Instr.slice, hrun, tsz_run hn]
            split <;> rfl
          · cases mx with
            | some _ => simp at hmm; omega
            | none => simp at hmm; omega
          · by_cases e : m' = l
            · left; omega
            · right
              rw [if_neg e]
              have hy : y = ⟨p.blk, p.off + o, none⟩ := by
                rcases g3 with g3 | g3
                · exfalso; cases mx with
                  | some _ => simp at hmm; omega
                  | none => simp at hmm; omega
                · exact g3
              rw [hy, addr_add, Nat.add_assoc]
          · cases mx with
            | some _ => simp at hmm; left; omega
            | none =>
              simp at hmm
              subst hmm
              rcases g4 with g4 | ⟨s, hs, g4⟩
              · left
                have : m = cap := by
                  unfold boundsA at hb
                  simp only [] at hb
                  (repeat' split at hb) <;> simp_all
                omega
              · right
                refine ⟨s, by simpa using hs, ?_⟩
                rw [hs] at hsl
                simp at hsl
                subst hsl
                have hle : l ≤ c' := by omega
                have : l * s + (c' - l) * s = c' * s := by rw [← Nat.add_mul]; congr 1; omega
                simp only []
                omega
        · exact absurd h (by simp)
    · exact absurd h (by simp)
  · exact absurd h (by simp)

end
end Go.Abs

/- Each operation of the model comes to what the abstract machine says: operators, equality, conversions. -/
namespace Go.Abs
set_option linter.unusedVariables false
set_option linter.unusedSimpArgs false

section
variable {P : Program} {a : Act} {ρ : Map}

theorem str_toList (s : List UInt8) : (⟨s.toArray⟩ : ByteArray).toList = s := by simp [ByteArray.toList_eq]
theorem str_size (s : List UInt8) : (⟨s.toArray⟩ : ByteArray).size = s.length := by simp [ByteArray.size]
theorem str_append (s t : List UInt8) : (⟨s.toArray⟩ : ByteArray) ++ ⟨t.toArray⟩ = ⟨(s ++ t).toArray⟩ := by
  apply ByteArray.ext
  simp

/-! ## numbers, strings -/
theorem intOp_ok {op : BinOp} {t : TypeId} {k : IntKind} {x y : Int} {v : AV} (hop : op ≠ .shl ∧ op ≠ .shr) (h : intOp op k x y = some v) :
    ∃ u, (∀ w, (binOp op t (.int k x) (.int k y)).run P w = .ok u w) ∧ VRel ρ v u := by
  obtain ⟨h1, h2⟩ := hop
  cases op <;> simp only [intOp] at h <;> first
    | (obtain rfl := Option.some.inj h; exact ⟨_, fun w => by simp [binOp, Op.intArith, Op.intBits, Op.intCmp]; rfl, rfl⟩)
    | (obtain rfl := Option.some.inj h; exact ⟨_, fun w => by simp [binOp, Op.intArith, Op.intBits, Op.intCmp], rfl⟩)
    | (split at h
       · cases h
       · rename_i hy
         obtain rfl := Option.some.inj h
         exact ⟨_, fun w => (by simp [binOp, Op.intDiv, hy]; try rfl), rfl⟩)
    | exact absurd rfl h1
    | exact absurd rfl h2
    | cases h

theorem shiftOp_ok {op : BinOp} {t : TypeId} {k k' : IntKind} {x y : Int} {v : AV} (h : shiftOp op k x y = some v) (hop : op = .shl ∨ op = .shr) :
    ∃ u, (∀ w, (binOp op t (.int k x) (.int k' y)).run P w = .ok u w) ∧ VRel ρ v u := by
  unfold shiftOp at h
  split at h
  · exact absurd h (by simp)
  · rename_i hy
    rcases hop with rfl | rfl
    · simp only [Option.some.injEq] at h
      subst h
      exact ⟨_, fun w => by simp only [binOp, Op.shift, hy, if_false]; rfl, rfl⟩
    · simp only [Option.some.injEq] at h
      subst h
      exact ⟨_, fun w => by simp only [binOp, Op.shift, hy, if_false]; rfl, rfl⟩

theorem strOp_ok {op : BinOp} {t : TypeId} {x y : List UInt8} {v : AV} (h : strOp op x y = some v) :
    ∃ u, (∀ w, (binOp op t (.string ⟨x.toArray⟩) (.string ⟨y.toArray⟩)).run P w = .ok u w) ∧ VRel ρ v u := by
  cases op <;> simp only [strOp] at h <;> first
    | (obtain rfl := Option.some.inj h; exact ⟨_, fun w => by simp only [binOp, Op.stringOp, str_toList]; rfl, rfl⟩)
    | (split at h
       · rename_i hle
         obtain rfl := Option.some.inj h
         refine ⟨.string (⟨x.toArray⟩ ++ ⟨y.toArray⟩), fun w => ?_, by rw [str_append]; rfl⟩
         have hn : ¬ (((⟨x.toArray⟩ : ByteArray).size + (⟨y.toArray⟩ : ByteArray).size : Nat) : Int) > IntKind.i64.max := by
           rw [str_size, str_size]
           have : IntKind.i64.max = 9223372036854775807 := by decide
           omega
         simp only [binOp, Op.stringOp]
         rw [if_neg hn]
         rfl
       · cases h)
    | cases h

/-! ## equality -/
theorem eqFields_ok {d : Nat} {eq : TypeId → AV → AV → Option Bool} (ih : ∀ t x y r ux uy, eq t x y = some r → VRel ρ x ux → VRel ρ y uy → ∀ w, (Op.equalIn d t ux uy).run P w = .ok r w)
    {xs ys : List AV} {us vs : Array Value} (hx : VRels ρ xs us.toList) (hy : VRels ρ ys vs.toList) : ∀ {fs : List Field} {r : Bool}, eqFieldsA eq P xs ys fs = some r → ∀ w, (Op.eqFields d us vs fs).run P w = .ok r w
  | [], r, h, w => by simp only [eqFieldsA, Option.some.injEq] at h; subst h; simp [Op.eqFields]
  | f :: fs, r, h, w => by
    simp only [eqFieldsA] at h
    by_cases hn : f.name = "_"
    · simp only [hn, if_true] at h
      simp only [Op.eqFields, hn, ne_eq, not_true_eq_false, if_false]
      exact eqFields_ok ih hx hy h w
    · simp only [hn, if_false] at h
      cases h1 : partA P f.type xs f.offset with
      | none => simp [h1] at h
      | some x =>
        cases h2 : partA P f.type ys f.offset with
        | none => simp [h1, h2] at h
        | some y =>
          simp only [h1, h2] at h
          obtain ⟨ux, rx, hrx⟩ := part_run h1 hx
          obtain ⟨uy, ry, hry⟩ := part_run h2 hy
          cases h3 : eq f.type x y with
          | none => simp [h3] at h
          | some b =>
            simp only [h3] at h
            have h4 := ih _ _ _ _ _ _ h3 hrx hry
            simp only [Op.eqFields, hn, ne_eq, not_false_eq_true, if_true, Sem.run_bind, rx, ry, h4, Result.andThen_ok]
            cases b with
            | true =>
              simp only [Bool.not_true, Bool.false_eq_true, if_false]
              exact eqFields_ok ih hx hy (by simpa using h) w
            | false =>
              simp only [Option.some.injEq] at h
              subst h
              simp

theorem eqItems_ok {d : Nat} {elem : TypeId} {eq : AV → AV → Option Bool} (ih : ∀ x y r ux uy, eq x y = some r → VRel ρ x ux → VRel ρ y uy → ∀ w, (Op.equalIn d elem ux uy).run P w = .ok r w)
    {n : Nat} {xs ys : List AV} {us vs : Array Value} (hx : VRels ρ xs us.toList) (hy : VRels ρ ys vs.toList) : ∀ {is : List Nat} {r : Bool}, eqItemsA eq P elem n xs ys is = some r → ∀ w, (Op.eqItems d elem n us vs is).run P w = .ok r w
  | [], r, h, w => by simp only [eqItemsA, Option.some.injEq] at h; subst h; simp [Op.eqItems]
  | i :: is, r, h, w => by
    simp only [eqItemsA] at h
    cases h1 : partA P elem xs (i * n) with
    | none => simp [h1] at h
    | some x =>
      cases h2 : partA P elem ys (i * n) with
      | none => simp [h1, h2] at h
      | some y =>
        simp only [h1, h2] at h
        obtain ⟨ux, rx, hrx⟩ := part_run h1 hx
        obtain ⟨uy, ry, hry⟩ := part_run h2 hy
        cases h3 : eq x y with
        | none => simp [h3] at h
        | some b =>
          simp only [h3] at h
          have h4 := ih _ _ _ _ _ h3 hrx hry
          simp only [Op.eqItems, Sem.run_bind, rx, ry, h4, Result.andThen_ok]
          cases b with
          | true =>
            simp only [Bool.not_true, Bool.false_eq_true, if_false]
            exact eqItems_ok ih hx hy (by simpa using h) w
          | false =>
            simp only [Option.some.injEq] at h
            subst h
            simp

theorem bytes_beq (s t : List UInt8) : ((⟨s.toArray⟩ : ByteArray) == ⟨t.toArray⟩) = (s == t) := by
  rw [beq_toListBytes, str_toList, str_toList]

theorem eqA_ok : ∀ (d D : Nat) (t : TypeId) (x y : AV) (r : Bool) (ux uy : Value), d ≤ D → eqA P d t x y = some r → VRel ρ x ux → VRel ρ y uy → ∀ w, (Op.equalIn D t ux uy).run P w = .ok r w
  | 0, D, t, x, y, r, ux, uy, hD, h, hx, hy, w => by simp [eqA] at h
  | d + 1, 0, t, x, y, r, ux, uy, hD, h, hx, hy, w => by omega
  | d + 1, D + 1, t, x, y, r, ux, uy, hD, h, hx, hy, w => by
    simp only [eqA] at h
    split at h
    · rename_i p q hd
      injection h with h; subst h
      cases hx; cases hy
      exact run_equalIn_bool' w D t p q hd
    · rename_i k p k' q kk hd
      split at h
      · rename_i e
        injection h with h; subst h
        cases hx; cases hy; subst e
        exact run_equalIn_int w D t _ _ _ _ hd
      · exact absurd h (by simp)
    · rename_i p q hd
      injection h with h; subst h
      cases hx; cases hy
      rw [run_equalIn_string w D t _ _ hd, str_toList, str_toList]
    · rename_i fields xs ys hd
      split at h
      · exact absurd h (by simp)
      · rename_i hst
        obtain ⟨us, rfl, hu⟩ := hx
        obtain ⟨vs, rfl, hv⟩ := hy
        have hf : P.fieldsOf t = fields := by simp [Program.fieldsOf, hd]
        rw [run_equalIn_struct w D t us vs (by rw [hf]; exact hd) (by simpa using hst), hf]
        exact eqFields_ok (fun t x y r ux uy h hx hy w => eqA_ok d D t x y r ux uy (by omega) h hx hy w) hu hv h w
    · rename_i len elem xs ys hd
      cases hn : tsz P elem with
      | none => simp [hn] at h
      | some n =>
        simp only [hn] at h
        obtain ⟨us, rfl, hu⟩ := hx
        obtain ⟨vs, rfl, hv⟩ := hy
        cases hi : P.info? elem with
        | none => simp [tsz, hi] at hn
        | some i =>
          have hc : P.cellsOf elem = n := by simp [tsz, hi] at hn; simp [Program.cellsOf, hi, hn]
          rw [run_equalIn_array w D us vs hd hi, hc]
          exact eqItems_ok (fun x y r ux uy h hx hy w => eqA_ok d D elem x y r ux uy (by omega) h hx hy w) hu hv h w
    · exact absurd h (by simp)

/-- The guard of '==' lets by what the abstract machine compares. -/
theorem eqGuard_ok {op : BinOp} {t : TypeId} {x y : Operand} {u v : Value} (h2 : (∃ us vs, u = .agg us ∧ v = .agg vs) → P.eqGuardType P.depth t = false)
    (h3 : ¬ (u = .nilIface ∧ v = .nilIface)) (w : World) : (eqGuard op t x y u v).run P w = .ok () w := by
  by_cases ha : ∃ us vs, u = .agg us ∧ v = .agg vs
  · obtain ⟨us, vs, rfl, rfl⟩ := ha
    exact run_eqGuard_agg w op t x y us vs (h2 ⟨us, vs, rfl, rfl⟩)
  · by_cases hop : op = .eql ∨ op = .neq
    · rcases hop with rfl | rfl
      · cases u <;> cases v <;> first
          | rfl
          | exact absurd ⟨rfl, rfl⟩ h3
          | exact absurd ⟨_, _, rfl, rfl⟩ ha
      · cases u <;> cases v <;> first
          | rfl
          | exact absurd ⟨rfl, rfl⟩ h3
          | exact absurd ⟨_, _, rfl, rfl⟩ ha
    · cases op <;> first
        | rfl
        | exact absurd (.inl rfl) hop
        | exact absurd (.inr rfl) hop

theorem equal_succ (t : TypeId) (x y : Value) : Op.equal t x y = Op.equalIn (9999 + 1) t x y := rfl

/-- Two pointers into blocks apart. -/
theorem sameAddr_apart {G : Nat} {H : Heap} {w : World} (hs : Sim G ρ H w) {x y : Nat × Nat} {p q : Place} (hp : ρ x.1 = some p) (hq : ρ y.1 = some q) (hne : x.1 ≠ y.1) {o1 o2 : AObj}
    (h1 : H.get x.1 = some o1) (h2 : H.get y.1 = some o2) {r : AV} (hr : eqRead x y [o1, o2] = some r) :
    (sameAddr ⟨p.blk, p.off + x.2, none⟩ ⟨q.blk, q.off + y.2, none⟩).run P w = .ok false w := by
  unfold eqRead at hr
  split at hr
  · rename_i c e d f heq
    simp only [List.cons.injEq, and_true] at heq
    obtain ⟨rfl, rfl⟩ := heq
    split at hr
    · rename_i hb
      simp only [Bool.and_eq_true, decide_eq_true_eq] at hb
      have hap := hs.apart x.1 y.1 _ _ p q h1 h2 hne rfl rfl hp hq
      obtain ⟨p1, C, e1, fr, hp1, hh, hc, hl, ht, hown⟩ := hs.obj _ _ h1
      rw [hp] at hp1; injection hp1 with hp1; subst hp1
      obtain ⟨_, hfr⟩ := hown rfl
      have hfr : fr = (0, 0) := by rcases hfr with h | ⟨h, _⟩; exact h; exact absurd h (by simp)
      subst hfr
      obtain ⟨q1, D, e2, fr2, hq1, hh2, hc2, hl2, ht2, hown2⟩ := hs.obj _ _ h2
      rw [hq] at hq1; injection hq1 with hq1; subst hq1
      obtain ⟨_, hfr2⟩ := hown2 rfl
      have hfr2 : fr2 = (0, 0) := by rcases hfr2 with h | ⟨h, _⟩; exact h; exact absurd h (by simp)
      subst hfr2
      have hbn : (p.blk == q.blk) = false := by simpa using hap
      simp only [sameAddr]
      rw [if_neg (by simp [hbn])]
      simp [noView, viewAt, mayBeOne, stringish, World.frozen?, World.shape?, hh, hh2]
    · exact absurd hr (by simp)
  · exact absurd hr (by simp)

theorem run_equal_pointer {t e : TypeId} {x y : Addr} (hd : P.underlying t = some (.pointer e)) (hz : ¬ (tsz P e).getD 0 = 0) (w : World) :
    (Op.equal t (.pointer (some x)) (.pointer (some y))).run P w = (sameAddr x y).run P w := by
  cases hn : tsz P e with
  | none => rw [hn] at hz; exact absurd rfl hz
  | some n =>
    rw [hn] at hz
    have hz' : ¬ n = 0 := hz
    rw [equal_succ]
    generalize 9999 = d
    simp only [Op.equalIn, Sem.run_bind, und_run hd, Result.andThen_ok, tsz_run hn]
    rw [if_pos hz']

theorem bool_neg (r neg : Bool) : (if neg then !r else r) = (r != neg) := by cases r <;> cases neg <;> rfl

/-- '==' or '!=': the operator, by what 'equal' says. -/
theorem run_binOp_eq {neg : Bool} {t : TypeId} {u v : Value} (hcase : (∀ k m k' n, ¬ (u = .int k m ∧ v = .int k' n)) ∧ (∀ s s', ¬ (u = .string s ∧ v = .string s')) ∧
      (∀ k m k' n, ¬ (u = .float k m ∧ v = .float k' n)) ∧ (∀ k m k' n i j, ¬ (u = .complex k m i ∧ v = .complex k' n j))) (w : World) :
    (binOp (if neg then .neq else .eql) t u v).run P w = ((Op.equal t u v).run P w).andThen fun r w' => .ok (.bool (r != neg)) w' := by
  obtain ⟨h1, h2, h3, h4⟩ := hcase
  cases neg
  · simp only [Bool.false_eq_true, if_false]
    cases u <;> cases v <;> first
      | exact absurd ⟨rfl, rfl⟩ (h1 _ _ _ _)
      | exact absurd ⟨rfl, rfl⟩ (h2 _ _)
      | exact absurd ⟨rfl, rfl⟩ (h3 _ _ _ _)
      | exact absurd ⟨rfl, rfl⟩ (h4 _ _ _ _ _ _)
      | (simp only [binOp, Sem.run_bind]; congr 1; funext r w'; cases r <;> rfl)
  · simp only [if_true]
    cases u <;> cases v <;> first
      | exact absurd ⟨rfl, rfl⟩ (h1 _ _ _ _)
      | exact absurd ⟨rfl, rfl⟩ (h2 _ _)
      | exact absurd ⟨rfl, rfl⟩ (h3 _ _ _ _)
      | exact absurd ⟨rfl, rfl⟩ (h4 _ _ _ _ _ _)
      | (simp only [binOp, Sem.run_bind]; congr 1; funext r w'; cases r <;> rfl)

end
end Go.Abs
