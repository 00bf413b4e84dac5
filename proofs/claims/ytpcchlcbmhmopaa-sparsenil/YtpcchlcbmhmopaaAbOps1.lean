/- Each operation of the model comes to what the abstract machine says: operands, loads and stores, new blocks. -/
import Derived.Test.YtpcchlcbmhmopaaAbMem
import Derived.Test.YtpcchlcbmhmopaaAbCode
import Derived.Laws.Sem
namespace Go.Abs
set_option linter.unusedVariables false
set_option linter.unusedSimpArgs false

/-! ## what an operation delivers -/
def Delivers (P : Program) (s : Sem Next) (w : World) (R : Value → World → Prop) : Prop :=
  match s.run P w with
  | .ok (.value v) w' => R v w'
  | .ok .skip w' => R Go.undef w'
  | .ok (.enter f args) w' => Calls P f args w' fun e w'' => ∃ v, e = .returned v ∧ R v w''
  | _ => False

theorem wp_of_delivers {P : Program} {o : Oper} {a : Act} {w : World} {next : Act → World → Prop} {Q : Exit → Act → World → Prop} {R : Value → World → Prop}
    (h : Delivers P (execOp a.eval o) w R) (hn : ∀ v w', R v w' → next (a.put o.dst v) w') : o.wp P a w next Q := by
  unfold Oper.wp Delivers at *
  generalize (execOp a.eval o).run P w = r at *
  cases r with
  | ok n w' =>
    cases n <;> simp only [Oper.upon] at h ⊢ <;> first
      | exact hn _ _ h
      | (refine Calls.mono h ?_; rintro e w'' ⟨v, rfl, hv⟩; exact hn _ _ hv)
      | exact h.elim
  | halt x w' => exact h.elim

/-- What is claimed of an operation: its value and the memory behind it are the abstract machine's. -/
def Does (P : Program) (ρ : Map) (H : Heap) (w : World) (v : AV) (H' : Heap) (s : Sem Next) : Prop :=
  Delivers P s w fun u w' => ∃ ρ', Good P.globals.size ρ H w ρ' H' w' ∧ VRel ρ' v u

theorem does_value {P : Program} {ρ : Map} {H : Heap} {w w' : World} {v : AV} {H' : Heap} {s : Sem Next} {u : Value} {ρ' : Map}
    (h : s.run P w = .ok (.value u) w') (hg : Good P.globals.size ρ H w ρ' H' w') (hv : VRel ρ' v u) : Does P ρ H w v H' s := by
  unfold Does Delivers
  rw [h]
  exact ⟨ρ', hg, hv⟩

theorem does_skip {P : Program} {ρ : Map} {H : Heap} {w w' : World} {H' : Heap} {s : Sem Next} {ρ' : Map}
    (h : s.run P w = .ok .skip w') (hg : Good P.globals.size ρ H w ρ' H' w') : Does P ρ H w .undef H' s := by
  unfold Does Delivers
  rw [h]
  exact ⟨ρ', hg, VRel.undef _⟩

/-- A value of the memory that is there. -/
theorem does_pure {P : Program} {ρ : Map} {H : Heap} {w : World} {v : AV} {s : Sem Next} {u : Value} (hs : Sim P.globals.size ρ H w)
    (h : s.run P w = .ok (.value u) w) (hv : VRel ρ v u) : Does P ρ H w v H s :=
  does_value h (Good.refl hs) hv

abbrev Frel (ρ : Map) (T : List AV) (a : Act) : Prop := VRels ρ T a.tmps.toList

abbrev Glob (P : Program) (ρ : Map) : Prop := ∀ g, g < P.globals.size → ∃ p, ρ g = some p ∧ p.blk = g ∧ p.off = 0

theorem getD_rel {ρ : Map} {T : List AV} {l : Array Value} (h : VRels ρ T l.toList) (t : Nat) : VRel ρ (T.getD t .undef) (l.getD t Go.undef) := by
  have hl := h.length
  by_cases ht : t < T.length
  · obtain ⟨v, hv, r⟩ := h.get t T[t] (by simp [ht])
    rw [List.getD_eq_getElem?_getD, List.getElem?_eq_getElem ht]
    have : l.getD t Go.undef = v := by
      rw [Array.getD_eq_getD_getElem?, ← Array.getElem?_toList, hv]; rfl
    rw [this]; exact r
  · rw [List.getD_eq_getElem?_getD, List.getElem?_eq_none (by omega), Array.getD_eq_getD_getElem?, ← Array.getElem?_toList, List.getElem?_eq_none (by omega)]
    exact VRel.undef ρ

theorem ev_rel {P : Program} {ρ : Map} {T : List AV} {a : Act} (hf : Frel ρ T a) (hg : Glob P ρ) {x : Operand} {v : AV} (h : ev P T x = some v) : VRel ρ v (a.eval x) := by
  cases x with
  | tmp t => simp only [ev, Option.some.injEq] at h; subst h; exact getD_rel hf t
  | const c => exact ofConst_rel h ρ
  | global g =>
    simp only [ev] at h
    split at h
    · rename_i hlt
      injection h with h; subst h
      obtain ⟨p, hp, h1, h2⟩ := hg g hlt
      exact ⟨p, hp, by simp [Act.eval, h1, h2]⟩
    · exact absurd h (by simp)
  | func f => simp only [ev, Option.some.injEq] at h; subst h; exact ⟨#[], #[], rfl, rfl, rfl⟩

theorem evs_rel {P : Program} {ρ : Map} {T : List AV} {a : Act} (hf : Frel ρ T a) (hg : Glob P ρ) {l : Array Operand} {vs : List AV} (h : mapOpt (ev P T) l.toList = some vs) :
    VRels ρ vs (l.map a.eval).toList := by
  have := mapOpt_rel (ρ := ρ) (g := a.eval) (fun x v hx => ev_rel hf hg hx) h
  simpa using this

/-! ## types -/
theorem tsz_run {P : Program} {t : TypeId} {n : Nat} (h : tsz P t = some n) (w : World) : (sizeOf t).run P w = .ok n w := by
  unfold tsz at h
  cases hi : P.info? t with
  | none => simp [hi] at h
  | some i => simp [hi] at h; simp [sizeOf, typeInfo, hi, h]

theorem tinfo_run {P : Program} {t : TypeId} {i : TypeInfo} (h : P.info? t = some i) (w : World) : (typeInfo t).run P w = .ok i w := by
  simp [typeInfo, h]

theorem tagg_run {P : Program} {t : TypeId} {g : Bool} (h : tagg P t = some g) (w : World) : (isAgg t).run P w = .ok g w := by
  unfold tagg at h
  cases hd : P.underlying t with
  | none => simp [hd] at h
  | some d => cases d <;> simp [hd] at h <;> subst h <;> simp [isAgg, underlying, hd]

theorem tzero_run {P : Program} {t : TypeId} {z : AV} (h : tzero P t = some z) : ∃ u, (∀ w, (zeroValue t).run P w = .ok u w) ∧ ∀ ρ, VRel ρ z u := by
  unfold tzero at h
  cases hi : P.info? t with
  | none => simp [hi] at h
  | some i =>
    cases hz : i.zero with
    | none => simp [hi, hz] at h
    | some u =>
      simp [hi, hz] at h
      exact ⟨u, fun w => by simp [zeroValue, typeInfo, hi, hz], fun ρ => ofConst_rel h ρ⟩

/-! ## reading -/
theorem addr_add (b o j : Nat) : (⟨b, o, none⟩ : Addr).add j = ⟨b, o + j, none⟩ := by
  unfold Addr.add
  split
  · rename_i h; subst h; rfl
  · rfl

theorem cell_of {w : World} {B : Nat} {C : Array Value} {e : TypeId} {fr : Nat × Nat} (h : w.heap[B]? = some (.cells C e fr)) (j : Nat) : w.cell? ⟨B, j, none⟩ = C[j]? := by
  simp [World.cell?, h]

/-- A row of cells read, in whatever world the block lies. -/
theorem cells_reads {ρ : Map} {P : Program} {c : List AV} {C : Array Value} {off B : Nat} {e : TypeId} {fr : Nat × Nat} (hc : CRel ρ c C off)
    (o n : Nat) (hn : o + n ≤ c.length) : ∃ us : Array Value, (∀ w : World, w.heap[B]? = some (.cells C e fr) → (loadCells ⟨B, off + o, none⟩ n).run P w = .ok us w) ∧ VRels ρ ((c.drop o).take n) us.toList := by
  have key : ∀ i, i < n → ∃ u, C[off + o + i]? = some u ∧ ∃ a, c[o + i]? = some a ∧ VRel ρ a u := by
    intro i hi
    obtain ⟨u, hu, r⟩ := hc (o + i) c[o + i] (by simp [show o + i < c.length by omega])
    exact ⟨u, by rw [← hu]; congr 1; omega, c[o + i], by simp [show o + i < c.length by omega], r⟩
  let us : List Value := (List.range n).map fun i => (C[off + o + i]?).getD Go.undef
  have hlen : us.length = n := by simp [us]
  have hget : ∀ i u, us[i]? = some u → i < n ∧ C[off + o + i]? = some u := by
    intro i u hu
    have hi : i < n := by
      rcases Nat.lt_or_ge i n with h | h
      · exact h
      · rw [List.getElem?_eq_none (by omega)] at hu; exact absurd hu (by simp)
    obtain ⟨x, hx, _⟩ := key i hi
    simp [us, hi, hx] at hu
    exact ⟨hi, by rw [← hu]; exact hx⟩
  refine ⟨us.toArray, ?_, ?_⟩
  · intro w hh
    have := run_loadCells_list (P := P) w ⟨B, off + o, none⟩ us (fun j v hj => by
      rw [addr_add, cell_of hh]
      exact (hget j v hj).2)
    rw [hlen] at this
    exact this
  · refine VRels.mk (by simp [hlen]; omega) ?_
    intro i a v ha hv
    obtain ⟨hi, hC⟩ := hget i v (by simpa using hv)
    obtain ⟨u, hu, b, hb, r⟩ := key i hi
    rw [hu] at hC; injection hC with hC; subst hC
    rw [List.getElem?_take, if_pos hi, List.getElem?_drop, hb] at ha
    injection ha with ha; subst ha
    exact r

/-- A row of cells read. -/
theorem cells_read {ρ : Map} {w : World} {P : Program} {c : List AV} {C : Array Value} {off B : Nat} {e : TypeId} {fr : Nat × Nat} (hh : w.heap[B]? = some (.cells C e fr)) (hc : CRel ρ c C off)
    (o n : Nat) (hn : o + n ≤ c.length) : ∃ us : Array Value, (loadCells ⟨B, off + o, none⟩ n).run P w = .ok us w ∧ VRels ρ ((c.drop o).take n) us.toList := by
  obtain ⟨us, h, r⟩ := cells_reads (P := P) (B := B) (e := e) (fr := fr) hc o n hn
  exact ⟨us, h w hh, r⟩

theorem load_cell {w : World} {P : Program} {a : Addr} {v : Value} (h : w.cell? a = some v) : (load a).run P w = .ok v w := by simp [h]

/-- A variable read. -/
theorem var_read {P : Program} {G : Nat} {ρ : Map} {H : Heap} {w : World} (hs : Sim G ρ H w) {t : TypeId} {g : Bool} {n b o : Nat} {x : AObj} {v : AV} {p : Place}
    (hg : tagg P t = some g) (hn : tsz P t = some n) (hx : H.get b = some x) (hp : ρ b = some p) (hr : readVar g n o x = some v) :
    ∃ u, (loadVar t ⟨p.blk, p.off + o, none⟩).run P w = .ok u w ∧ VRel ρ v u := by
  cases x with
  | map es => simp [readVar] at hr
  | dead => simp [readVar] at hr
  | cells c e own mk =>
    obtain ⟨p1, C, el, fr, hp1, hh, hc, _⟩ := hs.obj b _ hx
    rw [hp] at hp1; injection hp1 with hp1; subst hp1
    simp only [readVar] at hr
    cases g with
    | true =>
      simp only [if_true] at hr
      split at hr
      · rename_i hle
        injection hr with hr; subst hr
        obtain ⟨us, hu, r⟩ := cells_read (P := P) hh hc o n hle
        exact ⟨.agg us, by simp [loadVar, tagg_run hg, tsz_run hn, hu], us, rfl, r⟩
      · exact absurd hr (by simp)
    | false =>
      simp at hr
      obtain ⟨u, hu, r⟩ := hc o v hr
      exact ⟨u, by simp [loadVar, tagg_run hg, World.cell?, hh, hu], r⟩

/-! ## writing -/
theorem run_store_one {P : Program} {w : World} {a : Addr} {v : Value} (h1 : (∀ cs, v ≠ .agg cs) ∧ (∀ cs, v ≠ .tuple cs)) (hc : ∃ u, w.cell? a = some u) (hf : w.frozen? a = false) :
    (store a v).run P w = .ok () (w.setCell a v) := by
  have h : v.oneCell' = true := by
    cases v <;> first | rfl | exact absurd rfl (h1.1 _) | exact absurd rfl (h1.2 _)
  obtain ⟨u, hu⟩ := hc
  rw [run_store P w a v .plain h, hu]
  simp [hf]

theorem set_self_get {H : Heap} {b : Nat} {o : AObj} (h : H.get b = some o) : ∀ x, (H.set b o).get x = H.get x := by
  intro x
  rw [Heap.get_set]
  split
  · rename_i e; subst e; exact h.symm
  · rfl

/-- Cells written one behind the other. -/
theorem cells_written {P : Program} {ρ : Map} {b : Nat} {p : Place} {e : TypeId} {m : Bool} (hp : ρ b = some p) : ∀ (vs : List AV) (us : List Value) {G : Nat} {H : Heap} {w : World} {c : List AV} (o0 i : Nat),
    Sim G ρ H w → H.get b = some (.cells c e true m) → o0 + i + vs.length ≤ c.length → VRels ρ vs us → vs.all AV.one = true →
    ∃ w', (storeCells ⟨p.blk, p.off + o0, none⟩ us i).run P w = .ok () w' ∧ Good G ρ H w ρ (H.set b (.cells (writeAt c (o0 + i) vs) e true m)) w'
  | [], us, G, H, w, c, o0, i, hs, hg, hl, hv, h1 => by
    cases hv
    exact ⟨w, rfl, (Good.refl hs).congr (set_self_get hg) rfl⟩
  | v :: vs, us, G, H, w, c, o0, i, hs, hg, hl, ⟨u, us', hu, hv, hvs⟩, h1 => by
    subst hu
    simp only [List.all_cons, Bool.and_eq_true] at h1
    simp only [List.length_cons] at hl
    obtain ⟨hg1, hcell, hfr⟩ := Good.write1 hs hg (o := o0 + i) (by omega) hp hv
    have hst := run_store_one (P := P) (hv.one h1.1) hcell hfr
    obtain ⟨w', hrun, hg2⟩ := cells_written hp vs us' o0 (i + 1) hg1.sim (Heap.get_set_same _ _ _) (by simp; omega) hvs h1.2
    refine ⟨w', ?_, ?_⟩
    · simp only [storeCells, Sem.run_bind, addr_add]
      rw [show p.off + o0 + i = p.off + (o0 + i) by omega, hst]
      simp only [Result.andThen_ok]
      exact hrun
    · refine (hg1.trans hg2).congr ?_ rfl
      intro x
      simp only [Heap.get_set, writeAt, Nat.add_assoc]
      split <;> rfl

theorem writeCells_run {P : Program} {G : Nat} {ρ : Map} {H H' : Heap} {w : World} (hs : Sim G ρ H w) {b o : Nat} {vs : List AV} {us : List Value} {p : Place} (hp : ρ b = some p)
    (h : writeCells H b o vs = some H') (hv : VRels ρ vs us) : ∃ w', (storeCells ⟨p.blk, p.off + o, none⟩ us).run P w = .ok () w' ∧ Good G ρ H w ρ H' w' := by
  unfold writeCells at h
  split at h
  · injection h with h; subst h
    cases hv
    exact ⟨w, rfl, Good.refl hs⟩
  · split at h
    · rename_i c e m hg
      split at h
      · rename_i hc
        injection h with h; subst h
        simp only [Bool.and_eq_true, decide_eq_true_eq] at hc
        obtain ⟨w', hr, hg'⟩ := cells_written (P := P) hp vs us o 0 hs hg (by omega) hv hc.2
        exact ⟨w', hr, hg'⟩
      · exact absurd h (by simp)
    · exact absurd h (by simp)

/-- Cells laid behind the last one, out of the slack. -/
theorem cells_extended {P : Program} {ρ : Map} {b : Nat} {p : Place} {e : TypeId} {m : Bool} (hp : ρ b = some p) : ∀ (vs : List AV) (us : List Value) {G : Nat} {H : Heap} {w : World} {c : List AV} (o0 i : Nat),
    Sim G ρ H w → H.get b = some (.cells c e true m) → o0 + i = c.length → c.length + vs.length ≤ p.tot → VRels ρ vs us → vs.all AV.one = true →
    ∃ w', (storeCells ⟨p.blk, p.off + o0, none⟩ us i).run P w = .ok () w' ∧ Good G ρ H w ρ (H.set b (.cells (c ++ vs) e true m)) w'
  | [], us, G, H, w, c, o0, i, hs, hg, hl, _, hv, h1 => by
    cases hv
    exact ⟨w, rfl, (Good.refl hs).congr (by rw [List.append_nil]; exact set_self_get hg) rfl⟩
  | v :: vs, us, G, H, w, c, o0, i, hs, hg, hl, hl2, ⟨u, us', hu, hv, hvs⟩, h1 => by
    subst hu
    simp only [List.all_cons, Bool.and_eq_true] at h1
    simp only [List.length_cons] at hl2
    obtain ⟨hg1, hcell, hfr⟩ := Good.extend1 hs hg (by omega) hp hv
    have hst := run_store_one (P := P) (hv.one h1.1) hcell hfr
    obtain ⟨w', hrun, hg2⟩ := cells_extended hp vs us' o0 (i + 1) hg1.sim (Heap.get_set_same _ _ _) (by simp; omega) (by simp; omega) hvs h1.2
    refine ⟨w', ?_, ?_⟩
    · simp only [storeCells, Sem.run_bind, addr_add]
      rw [show p.off + o0 + i = p.off + c.length by omega, hst]
      simp only [Result.andThen_ok]
      exact hrun
    · refine (hg1.trans hg2).congr ?_ rfl
      intro x
      simp only [Heap.get_set, List.append_assoc, List.singleton_append]
      split <;> rfl

/-! ## new blocks -/
/-- A new block of cells. -/
theorem Good.newCells {G : Nat} {ρ : Map} {H : Heap} {w : World} (hs : Sim G ρ H w) (hn : ρ H.next = none) {cs : List AV} {C : Array Value} {e el : TypeId} {m : Bool} {fr : Nat × Nat}
    (hc : VRels ρ cs (C.toList.take cs.length)) (hl : cs.length ≤ C.size) (hfr : fr = (0, 0) ∨ (m = true ∧ fr = (C.size, C.size + 1))) :
    Good G ρ H w (upd ρ H.next ⟨w.heap.size, 0, C.size⟩) (H.push (.cells cs e true m)) (w.alloc (.cells C el fr)) := by
  refine Good.push hs hn ?_ rfl
  refine ⟨_, C, el, fr, upd_same _ _ _, push_at _, ?_, by simpa using hl, hl, fun _ => ⟨by simp, hfr⟩⟩
  intro i a ha
  obtain ⟨v, hv, r⟩ := hc.get i a ha
  refine ⟨v, ?_, VRel.mono (Ext.upd _ hn) _ _ r⟩
  rw [List.getElem?_take] at hv
  split at hv
  · simpa using hv
  · exact absurd hv (by simp)

theorem Good.newRow {G : Nat} {ρ : Map} {H : Heap} {w : World} (hs : Sim G ρ H w) (hn : ρ H.next = none) {cs : List AV} {C : Array Value} {e el : TypeId} (hc : VRels ρ cs C.toList) (m : Bool) :
    Good G ρ H w (upd ρ H.next ⟨w.heap.size, 0, C.size⟩) (H.push (.cells cs e true m)) (w.alloc (.cells C el)) := by
  have hl := hc.length
  refine Good.newCells hs hn ?_ (by simp at hl; omega) (.inl rfl)
  rw [List.take_of_length_le (by simp at hl; simp; omega)]
  exact hc

end Go.Abs
