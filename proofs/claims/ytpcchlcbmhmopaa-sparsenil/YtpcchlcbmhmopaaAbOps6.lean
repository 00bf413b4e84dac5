/- Each operation of the model comes to what the abstract machine says: conversions, maps, make, append, copy, clear, delete. -/
import Derived.Test.YtpcchlcbmhmopaaAbOps5
import Derived.Laws.BytesString
namespace Go.Abs
set_option linter.unusedVariables false
set_option linter.unusedSimpArgs false

section
variable {P : Program} {a : Act} {ρ : Map}

/-! ## conversions -/
theorem cellsOfBytes_rel (ρ : Map) (s : List UInt8) : VRels ρ (cellsOfBytes s) ((⟨s.toArray⟩ : ByteArray).data.map fun b => Value.int .u8 b.toNat).toList := by
  have : ((⟨s.toArray⟩ : ByteArray).data.map fun b => Value.int .u8 b.toNat).toList = s.map fun b => Value.int .u8 b.toNat := by simp
  rw [this]
  exact VRels.map_eq (fun b : UInt8 => AV.int .u8 b.toNat) (fun b : UInt8 => Value.int .u8 b.toNat) (fun _ => rfl) s

theorem heap_drawn (w : World) : ({ w with drawn := w.drawn + 1 } : World).heap = w.heap := rfl

theorem good_drawn {G : Nat} {ρ : Map} {H : Heap} {w : World} (hs : Sim G ρ H w) : Good G ρ H w ρ H { w with drawn := w.drawn + 1 } :=
  Good.same hs rfl rfl rfl rfl

theorem run_capAsk (need old : Nat) (e : TypeId) (w : World) (hn : need < 2 ^ 63) : ∃ c, need ≤ c ∧ (choose (.appendCap need old e)).run P w = .ok c { w with drawn := w.drawn + 1 } := by
  refine ⟨Question.cut (.appendCap need old e) (w.tape w.drawn (.appendCap need old e)), ?_, ?_⟩
  · simp only [Question.cut]; omega
  · rw [run_choose, if_neg (by simp [Question.forced])]

theorem stringToBytes_ok {s : List UInt8} {e : TypeId} (hl : s.length < 2 ^ 63) :
    SemOk P a (.alloc (.cells (cellsOfBytes s) e true true) fun n => .slice (some (n, 0)) s.length s.length (some 1)) (do pure (Next.value (← Conv.stringToBytes e ⟨s.toArray⟩))) ρ := by
  intro H w v' H' hs hr hfree hwf
  simp only [Sm.run, Option.some.injEq, Prod.mk.injEq] at hr
  obtain ⟨rfl, rfl⟩ := hr
  obtain ⟨c, hc, hcap⟩ := run_capAsk (P := P) s.length 0 e w hl
  let w1 : World := { w with drawn := w.drawn + 1 }
  let C : Array Value := ((⟨s.toArray⟩ : ByteArray).data.map fun b => Value.int .u8 b.toNat) ++ Array.replicate (c - s.length) (.int .u8 0)
  have hCs : C.size = c := by simp [C]; omega
  have hsz : (cellsOfBytes s).length = s.length := by simp [cellsOfBytes]
  have hg1 : Good P.globals.size ρ H w ρ H w1 := good_drawn hs
  have hg2 := Good.newCells (e := e) (el := e) (m := true) (fr := (0, 0)) hg1.sim (hfree _ (Nat.le_refl _) (by simp)) (cs := cellsOfBytes s) (C := C) (by
    have h := cellsOfBytes_rel ρ s
    have e1 : C.toList.take (cellsOfBytes s).length = ((⟨s.toArray⟩ : ByteArray).data.map fun b => Value.int .u8 b.toNat).toList := by
      rw [hsz]
      simp only [C, Array.toList_append]
      rw [List.take_left' (by simp)]
    rw [e1]
    exact h) (by rw [hsz, hCs]; exact hc) (.inl rfl)
  have hat : (w1.alloc (.cells C e)).heap[w.heap.size]? = some (.cells C e (0, 0)) := by
    show (w.heap.push _)[w.heap.size]? = _
    simp
  have hg3 := Good.marked (p := ⟨w.heap.size, 0, C.size⟩) hg2.sim (by rw [Heap.get_push, if_pos rfl]) (upd_same _ _ _) hat
  refine does_value (u := .slice (some ⟨w.heap.size, 0, none⟩) s.length c) (w' := (w1.alloc (.cells C e)).freeze { block := w.heap.size, off := C.size } 1) ?_
    (((hg1.trans hg2).trans hg3).congr (fun x => by simp only [Heap.get_set, Heap.get_push]; split <;> rfl) rfl) ?_
  · apply run_v
    simp only [Conv.stringToBytes, Sem.run_bind, str_size, hcap, Result.andThen_ok, newRow, run_newObj, Sem.run_pure]
    simp only [markStringish, Sem.run_bind, run_shape]
    have hsh : (World.shape? { w1 with heap := w1.heap.push (.cells C e) } w.heap.size) = some (e, C.size) := by
      have : ({ w1 with heap := w1.heap.push (.cells C e) } : World).heap[w.heap.size]? = some (.cells C e (0, 0)) := hat
      simp only [World.shape?, this]
    show Result.andThen (Result.andThen (Result.ok (World.shape? { w1 with heap := w1.heap.push (.cells C e) } w.heap.size) { w1 with heap := w1.heap.push (.cells C e) }) _) _ = _
    rw [hsh]
    rfl
  · exact ⟨⟨w.heap.size, 0, C.size⟩, _, c, by simpa using upd_same _ _ _, rfl, Nat.le_refl _, hc, .inr rfl, .inr ⟨1, rfl, by simp [hCs]⟩⟩

theorem bytesOfCells_ints : ∀ {cs : List AV} {s : List UInt8}, bytesOfCells cs = some s → ∃ ns : List Int, cs = ns.map (AV.int .u8) ∧ s = ns.map fun n => UInt8.ofNat n.toNat
  | [], s, h => by simp only [bytesOfCells, Option.some.injEq] at h; subst h; exact ⟨[], rfl, rfl⟩
  | c :: r, s, h => by
    unfold bytesOfCells at h
    split at h
    · rename_i heq; cases heq
    · rename_i n r' heq
      injection heq with e1 e2
      subst e1; subst e2
      cases hr : bytesOfCells r with
      | none => simp [hr] at h
      | some bs =>
        simp only [hr, Option.some.injEq] at h
        obtain ⟨ns, e1, e2⟩ := bytesOfCells_ints hr
        exact ⟨n :: ns, by simp [e1], by rw [← h, e2]; rfl⟩
    · cases h

theorem foldl_push (l : List Int) (s : List UInt8) : (l.foldl (fun (r : ByteArray) n => r.push (UInt8.ofNat n.toNat)) ⟨s.toArray⟩) = ⟨(s ++ l.map fun n => UInt8.ofNat n.toNat).toArray⟩ := by
  induction l generalizing s with
  | nil => simp
  | cons n l ih =>
    simp only [List.foldl_cons, List.map_cons]
    have : (⟨s.toArray⟩ : ByteArray).push (UInt8.ofNat n.toNat) = ⟨(s ++ [UInt8.ofNat n.toNat]).toArray⟩ := by
      apply ByteArray.ext
      simp
    rw [this, ih]
    simp

theorem vrels_ints {ρ : Map} {ns : List Int} {us : List Value} (h : VRels ρ (ns.map (AV.int .u8)) us) : us = ns.map (Value.int .u8) := by
  induction ns generalizing us with
  | nil => exact h
  | cons n ns ih =>
    obtain ⟨y, ys, rfl, hy, hys⟩ := h
    cases hy
    rw [ih hys]
    rfl

theorem conv_ok {src dst : TypeId} {x : AV} {s : Sm} {u : Value} (h : convSem P src dst x = some s) (hx : VRel ρ x u) : SemOk P a s (do pure (Next.value (← convert src dst u))) ρ := by
  unfold convSem at h
  split at h
  · rename_i d1 k k' n hs hd
    obtain rfl := Option.some.inj h
    cases hx
    refine semOk_pure (u := .int k (k.wrap n)) (fun w => run_v _ _ _ _ ?_) rfl
    cases d1 <;> simp [convert, und_run hs, und_run hd, Conv.intToInt]
  · rename_i d1 t hs hd
    obtain rfl := Option.some.inj h
    cases hx
    refine semOk_pure (u := .string ⟨t.toArray⟩) (fun w => run_v _ _ _ _ ?_) rfl
    cases d1 <;> simp [convert, und_run hs, und_run hd]
  · rename_i d1 e t hs hd
    split at h
    · rename_i he
      split at h
      · rename_i hle
        obtain rfl := Option.some.inj h
        cases hx
        have hl : t.length < 2 ^ 63 := by have := hle.2; omega
        have := stringToBytes_ok (P := P) (a := a) (ρ := ρ) (s := t) (e := e) hl
        intro H w v' H' hs' hr hf hwf
        have hdo := this H w v' H' hs' hr hf (by intro k e; cases e)
        unfold Does Delivers at *
        have : (do pure (Next.value (← convert src dst (Value.string ⟨t.toArray⟩))) : Sem Next).run P w = (do pure (Next.value (← Conv.stringToBytes e ⟨t.toArray⟩)) : Sem Next).run P w := by
          cases d1 <;> simp [convert, und_run hs, und_run hd, und_run he]
        rw [this]
        exact hdo
      · cases h
    · cases h
  · rename_i e1 e q n c sl hs hd
    split at h
    · rename_i hsd
      obtain ⟨hsd, hcp⟩ := hsd
      subst hsd
      split at h
      · rename_i he
        obtain rfl := Option.some.inj h
        intro H w v' H' hsim hr _ hwf
        simp only [Sm.run] at hr
        cases hg : H.get q.1 with
        | none => simp [hg] at hr
        | some o =>
          cases o with
          | map _ => simp [hg] at hr
          | dead => simp [hg] at hr
          | cells cs el own mk =>
            cases own with
            | false => simp [hg] at hr
            | true =>
              simp only [hg, Option.some.injEq, Prod.mk.injEq] at hr
              obtain ⟨rfl, rfl⟩ := hr
              obtain ⟨p, y, c', hp, rfl, r⟩ := hx
              have r' := r
              obtain ⟨_, hcc, e3, _⟩ := r'
              have e3 : y = _ := e3.resolve_left (by omega)
              have e3 : y.block = p.blk := by rw [e3]
              obtain ⟨p1, C, el', fr, hp1, hh, _⟩ := hsim.obj _ _ hg
              rw [hp] at hp1; injection hp1 with hp1; subst hp1
              have hgood := Good.marked hsim hg hp hh
              refine does_value (run_v _ _ _ (.slice (some y) n c') ?_) hgood ⟨p, y, c', hp, rfl, r⟩
              have hsh : w.shape? p.blk = some (el', C.size) := by simp [World.shape?, hh]
              simp only [convert, Sem.run_bind, und_run hd, Result.andThen_ok, und_run he, beq_self_eq_true, markStringish, run_shape, run_freeze, Sem.run_pure, e3, hsh]
      · cases h
    · cases h
  · rename_i e q n c sl hs hd
    split at h
    · rename_i he
      obtain rfl := Option.some.inj h
      obtain ⟨_, _, rfl⟩ := hx
      refine semOk_pure (u := .string .empty) (fun w => run_v _ _ _ _ ?_) rfl
      simp [convert, und_run hs, und_run hd, und_run he, Conv.bytesToString]
    · rename_i b o he
      obtain rfl := Option.some.inj h
      refine semOk_read fun H w os v' hsim hos hk => ?_
      obtain ⟨ob, hob, rfl⟩ := mapOpt_one hos
      cases ob with
      | map _ => simp at hk
      | dead => simp at hk
      | cells cs el own mk =>
        simp only [] at hk
        split at hk
        · rename_i hle
          cases hb : bytesOfCells ((cs.drop o).take n) with
          | none => simp [hb] at hk
          | some bs =>
            simp only [hb, Option.map_some, Option.some.injEq] at hk
            subst hk
            obtain ⟨ns, e1, e2⟩ := bytesOfCells_ints hb
            obtain ⟨p, y, c', hp, rfl, g1, g2, g5, _⟩ := hx
            have hrun : (loadCells y n).run P w = .ok (ns.map (Value.int .u8)).toArray w := by
              by_cases hn : n = 0
              · subst hn
                have : ns = [] := by simpa using e1.symm
                subst this
                simp [loadCells, loadCellsFrom]
              · obtain ⟨p1, C, el', fr, hp1, hh, hcr, _⟩ := hsim.obj _ _ hob
                rw [hp] at hp1; injection hp1 with hp1; subst hp1
                have hy : y = ⟨p.blk, p.off + o, none⟩ := by
                  rcases g5 with g5 | g5
                  · omega
                  · exact g5
                subst hy
                obtain ⟨us, hu, hrel⟩ := cells_read (P := P) hh hcr o n hle
                rw [e1] at hrel
                rw [hu]
                congr 1
                apply Array.ext'
                rw [vrels_ints hrel]
            refine ⟨.string (ns.foldl (fun r n => r.push (UInt8.ofNat n.toNat)) ByteArray.empty), run_v _ _ _ _ ?_, ?_⟩
            · simp only [convert, Sem.run_bind, und_run hs, und_run hd, Result.andThen_ok, und_run he]
              exact run_bytesToString w y n c' ns hrun
            · have := foldl_push ns []
              simp only [List.nil_append] at this
              show Value.string _ = Value.string _
              rw [e2, ← this]
              rfl
        · cases hk
    · cases h
  · cases h

end
end Go.Abs
