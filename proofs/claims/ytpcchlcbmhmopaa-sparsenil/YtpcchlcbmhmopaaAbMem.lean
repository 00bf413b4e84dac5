/- The steps of memory: a cell written, a block made, a block grown, a map changed: each keeps the bond between the two memories. -/
import Derived.Test.YtpcchlcbmhmopaaAbRel
import Derived.Laws.Cells
namespace Go.Abs
set_option linter.unusedVariables false

def upd (ρ : Map) (b : Nat) (p : Place) : Map := fun x => if x = b then some p else ρ x

theorem upd_same (ρ : Map) (b : Nat) (p : Place) : upd ρ b p b = some p := by simp [upd]
theorem upd_ne (ρ : Map) {b x : Nat} (p : Place) (h : x ≠ b) : upd ρ b p x = ρ x := by simp [upd, h]
theorem Ext.upd {ρ : Map} {b : Nat} (p : Place) (h : ρ b = none) : Ext ρ (upd ρ b p) := by
  intro x q hx
  by_cases e : x = b
  · subst e; rw [h] at hx; exact absurd hx (by simp)
  · rw [upd_ne ρ p e]; exact hx

theorem CRel.mono {ρ ρ' : Map} (e : Ext ρ ρ') {c : List AV} {C : Array Value} {off : Nat} (h : CRel ρ c C off) : CRel ρ' c C off := by
  intro i a ha
  obtain ⟨v, hv, r⟩ := h i a ha
  exact ⟨v, hv, VRel.mono e _ _ r⟩

/-- More memory, and more places: what was borne is borne. -/
theorem ORel.grow {ρ ρ' : Map} {w w' : World} (e : Ext ρ ρ') (h : ∀ (B : Nat) (o : Obj), w.heap[B]? = some o → w'.heap[B]? = some o) {b : Nat} : ∀ {o : AObj}, ORel ρ w b o → ORel ρ' w' b o := by
  intro o
  cases o with
  | cells c el own mk =>
    rintro ⟨p, C, e', fr, hp, hh, hc, hl, ht, ho⟩
    exact ⟨p, C, e', fr, e _ _ hp, h _ _ hh, hc.mono e, hl, ht, ho⟩
  | map es =>
    rintro ⟨p, m, k, hp, h0, h1, hh, hk⟩
    exact ⟨p, m, k, e _ _ hp, h0, h1, h _ _ hh, KRels.mono e _ _ hk⟩
  | dead => exact fun _ => trivial

/-- A live block's place is a block of the world. -/
theorem Sim.place {G : Nat} {ρ : Map} {H : Heap} {w : World} (hs : Sim G ρ H w) {b : Nat} {o : AObj} (h : H.get b = some o) (hl : o.live = true) : ∃ p O, ρ b = some p ∧ w.heap[p.blk]? = some O := by
  have := hs.obj b o h
  cases o with
  | cells c el own mk => obtain ⟨p, C, e', fr, hp, hh, _⟩ := this; exact ⟨p, _, hp, hh⟩
  | map es => obtain ⟨p, m, k, hp, _, _, hh, _⟩ := this; exact ⟨p, _, hp, hh⟩
  | dead => simp [AObj.live] at hl

/-- Only the blocks' contents count, and how many there are. -/
theorem Sim.congr {G : Nat} {ρ : Map} {H H' : Heap} {w w' : World} (hs : Sim G ρ H w) (hg : ∀ b, H'.get b = H.get b) (hw : w'.heap = w.heap) : Sim G ρ H' w' where
  obj := by
    intro b o h
    rw [hg] at h
    exact (hs.obj b o h).grow (Ext.refl ρ) (by intro B o h; rw [hw]; exact h)
  apart := by
    intro b b' o o' p p' h h'
    rw [hg] at h h'
    exact hs.apart b b' o o' p p' h h'
  glob := hs.glob

theorem OwnsBlk.congr {ρ : Map} {H H2 : Heap} {B : Nat} (hg : ∀ b, H2.get b = H.get b) (h : OwnsBlk ρ H2 B) : OwnsBlk ρ H B := by
  obtain ⟨b, o, p, hb, r⟩ := h
  exact ⟨b, o, p, by rw [← hg]; exact hb, r⟩

theorem Keeps.congr {ρ ρ' : Map} {H H' H2 : Heap} {w w' : World} (hk : Keeps ρ H w ρ' H' w') (hg : ∀ b, H2.get b = H'.get b) : Keeps ρ H w ρ' H2 w' where
  size := hk.size
  kept := hk.kept
  owns := fun B h => hk.owns B (h.congr hg)
  tape := hk.tape
  os := hk.os
  output := hk.output

theorem Good.congr {G : Nat} {ρ ρ' : Map} {H H' H2 : Heap} {w w' : World} (h : Good G ρ H w ρ' H' w') (hg : ∀ b, H2.get b = H'.get b) (hn : H2.next = H'.next) : Good G ρ H w ρ' H2 w' where
  sim := h.sim.congr hg rfl
  ext := h.ext
  out := by intro b hb; rw [hn] at hb; exact h.out b hb
  next := by rw [hn]; exact h.next
  dom := by intro b hb ho; rw [hn] at ho; rw [hg]; exact h.dom b hb ho
  ro := by intro b o ho; rw [hg] at ho; exact h.ro b o ho
  keeps := h.keeps.congr hg

/-- The same, at the beginning. -/
theorem Good.congr_left {G : Nat} {ρ ρ' : Map} {H H0 H' : Heap} {w w' : World} (h : Good G ρ H w ρ' H' w') (hg : ∀ b, H0.get b = H.get b) (hn : H0.next = H.next) : Good G ρ H0 w ρ' H' w' where
  sim := h.sim
  ext := h.ext
  out := by intro b hb; rw [hn] at hb; exact h.out b hb
  next := by rw [hn]; exact h.next
  dom := by intro b hb ho; rw [hg] at hb; rw [hn] at ho; exact h.dom b hb ho
  ro := by intro b o ho hl hw; rw [hg]; exact h.ro b o ho hl hw
  keeps := {
    size := h.keeps.size
    kept := by
      intro B o hB ho
      refine h.keeps.kept B o hB ?_
      rintro ⟨b, o, p, hb, r⟩; exact ho ⟨b, o, p, by rw [hg]; exact hb, r⟩
    owns := by
      intro B hx
      rcases h.keeps.owns B hx with x | ⟨b, o, p, hb, r⟩
      · exact .inl x
      · exact .inr ⟨b, o, p, by rw [hg]; exact hb, r⟩
    tape := h.keeps.tape
    os := h.keeps.os
    output := h.keeps.output }

/-- A world with the same memory. -/
theorem Good.same {G : Nat} {ρ : Map} {H : Heap} {w w' : World} (hs : Sim G ρ H w) (hw : w'.heap = w.heap) (ht : w'.tape = w.tape) (ho : w'.os = w.os) (hp : w'.output = w.output) : Good G ρ H w ρ H w' where
  sim := hs.congr (fun _ => rfl) hw
  ext := Ext.refl ρ
  out := fun _ _ => rfl
  next := Nat.le_refl _
  dom := fun _ h _ => h
  ro := fun _ _ h _ _ => h
  keeps := {
    size := by rw [hw]; exact Nat.le_refl _
    kept := fun B o h _ => by rw [hw]; exact h
    owns := fun B h => .inr h
    tape := ht
    os := ho
    output := hp }

/-! ## one block changed in place -/
/-- The world's block B turned; all others as they were. -/
structure Turned (w w' : World) (B : Nat) (O : Obj) : Prop where
  at_ : w'.heap[B]? = some O
  rest : ∀ x, x ≠ B → w'.heap[x]? = w.heap[x]?
  size : w'.heap.size = w.heap.size
  tape : w'.tape = w.tape
  os : w'.os = w.os
  output : w'.output = w.output

theorem turned_setCell {w : World} {B j : Nat} {C : Array Value} {e : TypeId} {fr : Nat × Nat} (h : w.heap[B]? = some (.cells C e fr)) (v : Value) :
    Turned w (w.setCell ⟨B, j, none⟩ v) B (.cells (C.setIfInBounds j v) e fr) where
  at_ := by simp [World.setCell, Array.getElem?_modify, h]
  rest := by intro x hx; simp only [World.setCell, Array.getElem?_modify]; rw [if_neg (by exact fun e => hx e.symm)]
  size := by simp [World.setCell]
  tape := rfl
  os := rfl
  output := rfl

/-- A change of one abstract block and of the block of the world where it lies. -/
theorem Good.turned {G : Nat} {ρ : Map} {H : Heap} {w w' : World} {b : Nat} {o o' : AObj} {p : Place} {O : Obj}
    (hs : Sim G ρ H w) (hg : H.get b = some o) (hown : o.own = true) (hlive : o.live = true) (hp : ρ b = some p) (ht : Turned w w' p.blk O)
    (hown' : o'.own = true) (ho' : ORel ρ w' b o') : Good G ρ H w ρ (H.set b o') w' := by
  have hset : ∀ x y, (H.set b o').get x = some y → ∃ y0, H.get x = some y0 ∧ (y.live = true → y0.live = true) ∧ (y.own = true → y0.own = true) := by
    intro x y h
    rw [Heap.get_set] at h
    split at h
    · rename_i e; subst e; exact ⟨_, hg, fun _ => hlive, fun _ => hown⟩
    · exact ⟨y, h, id, id⟩
  have hsim : Sim G ρ (H.set b o') w' := by
    refine ⟨?_, ?_, hs.glob⟩
    · intro x y h
      rw [Heap.get_set] at h
      split at h
      · rename_i e; subst e; injection h with h; subst h; exact ho'
      · rename_i hne
        have hx := hs.obj x y h
        cases y with
        | dead => trivial
        | map es =>
          obtain ⟨q, ms, k, hq, h0, h1, hh', hk⟩ := hx
          exact ⟨q, ms, k, hq, h0, h1, by rw [ht.rest _ (hs.apart x b _ _ q p h hg hne rfl hown hq hp)]; exact hh', hk⟩
        | cells d ed own md =>
          obtain ⟨q, D, ed', fd, hq, hh', r⟩ := hx
          exact ⟨q, D, ed', fd, hq, by rw [ht.rest _ (hs.apart x b _ _ q p h hg hne rfl hown hq hp)]; exact hh', r⟩
    · intro x x' y y' q q' h h' hne hl ho hq hq'
      obtain ⟨y1, g1, l1, _⟩ := hset x y h
      obtain ⟨y2, g2, _, w2⟩ := hset x' y' h'
      exact hs.apart x x' y1 y2 q q' g1 g2 hne (l1 hl) (w2 ho) hq hq'
  refine ⟨hsim, Ext.refl ρ, fun _ _ => rfl, Nat.le_refl _, ?_, ?_, ?_⟩
  · intro x hx _
    rw [Heap.get_set]
    split
    · rename_i e; subst e; rw [hg] at hx; exact absurd hx (by simp)
    · exact hx
  · intro x y h hl hw
    rw [Heap.get_set] at h
    split at h
    · injection h with h; subst h; rw [hown'] at hw; cases hw
    · exact h
  · refine ⟨by rw [ht.size]; exact Nat.le_refl _, ?_, ?_, ht.tape, ht.os, ht.output⟩
    · intro B y hB ho
      rw [ht.rest B ?_]; exact hB
      rintro rfl
      exact ho ⟨b, o, p, hg, hown, hp, rfl⟩
    · rintro B ⟨x, y, q, hx, hy, hq, rfl⟩
      obtain ⟨y1, g1, _, w1⟩ := hset x y hx
      exact .inr ⟨x, y1, q, g1, w1 hy, hq, rfl⟩

/-- A cell of an own block written. -/
theorem Good.write1 {G : Nat} {ρ : Map} {H : Heap} {w : World} {b o : Nat} {c : List AV} {e : TypeId} {m : Bool} {p : Place} {a : AV} {v : Value}
    (hs : Sim G ρ H w) (hg : H.get b = some (.cells c e true m)) (ho : o < c.length) (hp : ρ b = some p) (hv : VRel ρ a v) :
    Good G ρ H w ρ (H.set b (.cells (c.set o a) e true m)) (w.setCell ⟨p.blk, p.off + o, none⟩ v) ∧
    (∃ u, w.cell? ⟨p.blk, p.off + o, none⟩ = some u) ∧ w.frozen? ⟨p.blk, p.off + o, none⟩ = false := by
  obtain ⟨p1, C, el, fr, hp1, hh, hc, hl1, hl2, hown⟩ := hs.obj b _ hg
  rw [hp] at hp1; injection hp1 with hp1; subst hp1
  obtain ⟨hfit, hfr⟩ := hown rfl
  refine ⟨Good.turned hs hg rfl rfl hp (turned_setCell hh v) rfl ?_, ?_, ?_⟩
  · refine ⟨p, C.setIfInBounds (p.off + o) v, el, fr, hp, (turned_setCell hh v).at_, ?_, by simpa using hl1, by simpa using hl2, fun _ => ⟨by simpa using hfit, by simpa using hfr⟩⟩
    intro i x hx
    by_cases e' : i = o
    · subst e'
      rw [List.getElem?_set_self (by omega)] at hx
      injection hx with hx; subst hx
      exact ⟨v, by rw [Array.getElem?_setIfInBounds]; simp; omega, hv⟩
    · rw [List.getElem?_set_ne (fun h => e' h.symm)] at hx
      obtain ⟨u, hu, r⟩ := hc i x hx
      exact ⟨u, by rw [Array.getElem?_setIfInBounds]; rw [if_neg (by omega)]; exact hu, r⟩
  · obtain ⟨u, hu, _⟩ := hc o c[o] (by simp [ho])
    exact ⟨u, by simp [World.cell?, hh, hu]⟩
  · simp only [World.frozen?, hh]
    rcases hfr with rfl | ⟨_, rfl⟩
    · simp
    · simp; omega

/-- A map changed. -/
theorem Good.mapped {G : Nat} {ρ : Map} {H : Heap} {w : World} {r : Nat} {es es' : List (AV × AV)} {p : Place} {ms ms' : Array MapEntry} {k k' : Nat}
    (hs : Sim G ρ H w) (hg : H.get r = some (.map es)) (hp : ρ r = some p) (hh : w.heap[p.blk]? = some (.map ms k)) (hk : KRels ρ es' ms'.toList) :
    Good G ρ H w ρ (H.set r (.map es')) { w with heap := w.heap.setIfInBounds p.blk (.map ms' k') } := by
  obtain ⟨p1, m1, k1, hp1, h0, h1, hh1, _⟩ := hs.obj r _ hg
  rw [hp] at hp1; injection hp1 with hp1; subst hp1
  have hlt := heap_lt hh
  have ht : Turned w { w with heap := w.heap.setIfInBounds p.blk (.map ms' k') } p.blk (.map ms' k') :=
    ⟨by simp [hlt], fun x hx => by simp only [Array.getElem?_setIfInBounds]; rw [if_neg (fun e => hx e.symm)], by simp, rfl, rfl, rfl⟩
  exact Good.turned hs hg rfl rfl hp ht rfl ⟨p, ms', k', hp, h0, h1, ht.at_, hk⟩

/-- A block's bytes marked as a string's. -/
theorem Good.marked {G : Nat} {ρ : Map} {H : Heap} {w : World} {b : Nat} {c : List AV} {e : TypeId} {m : Bool} {p : Place} {C : Array Value} {el : TypeId} {fr : Nat × Nat}
    (hs : Sim G ρ H w) (hg : H.get b = some (.cells c e true m)) (hp : ρ b = some p) (hh : w.heap[p.blk]? = some (.cells C el fr)) :
    Good G ρ H w ρ (H.set b (.cells c e true true)) (w.freeze { block := p.blk, off := C.size } 1) := by
  obtain ⟨p1, C1, e1, fr1, hp1, hh1, hc1, hl1, hl2, hown⟩ := hs.obj b _ hg
  rw [hp] at hp1; injection hp1 with hp1; subst hp1
  rw [hh] at hh1; injection hh1 with hh1; injection hh1 with e1 e2 e3; subst e1; subst e2; subst e3
  obtain ⟨hfit, hfr⟩ := hown rfl
  have hfr' : (match fr with | (lo, hi) => (if lo == hi then (C.size, C.size + 1) else (min lo C.size, max hi (C.size + 1)))) = (C.size, C.size + 1) := by
    rcases hfr with rfl | ⟨_, rfl⟩
    · simp
    · simp
  have ht : Turned w (w.freeze { block := p.blk, off := C.size } 1) p.blk (.cells C el (C.size, C.size + 1)) := by
    refine ⟨?_, ?_, by simp [World.freeze], rfl, rfl, rfl⟩
    · simp only [World.freeze]
      rw [if_neg (by decide)]
      simp only [Array.getElem?_modify, hh, if_true, Option.map_some]
      exact congrArg (fun f => some (Obj.cells C el f)) hfr'
    · intro x hx
      simp only [World.freeze]
      rw [if_neg (by decide)]
      simp only [Array.getElem?_modify]
      rw [if_neg (fun e => hx e.symm)]
  exact Good.turned hs hg rfl rfl hp ht rfl ⟨p, C, el, _, hp, ht.at_, hc1, hl1, hl2, fun _ => ⟨hfit, .inr ⟨rfl, rfl⟩⟩⟩

/-! ## a new block -/
theorem push_get {w : World} (o : Obj) {B : Nat} {x : Obj} (h : w.heap[B]? = some x) : (World.alloc w o).heap[B]? = some x := by
  have hlt := heap_lt h
  show (w.heap.push o)[B]? = _
  rw [Array.getElem?_push, if_neg (by omega)]
  exact h

theorem push_at {w : World} (o : Obj) : (World.alloc w o).heap[w.heap.size]? = some o := by
  show (w.heap.push o)[w.heap.size]? = _
  simp

theorem Good.push {G : Nat} {ρ : Map} {H : Heap} {w : World} {o : AObj} {O : Obj} {tot : Nat} (hs : Sim G ρ H w) (hn : ρ H.next = none)
    (ho : ORel (upd ρ H.next ⟨w.heap.size, 0, tot⟩) (World.alloc w O) H.next o) (hown : o.own = true) :
    Good G ρ H w (upd ρ H.next ⟨w.heap.size, 0, tot⟩) (H.push o) (World.alloc w O) := by
  have hext : Ext ρ (upd ρ H.next ⟨w.heap.size, 0, tot⟩) := Ext.upd _ hn
  have hold : ∀ b x p, H.get b = some x → x.live = true → b ≠ H.next → upd ρ H.next ⟨w.heap.size, 0, tot⟩ b = some p → p.blk < w.heap.size := by
    intro b x p hb hl hne hp
    rw [upd_ne _ _ hne] at hp
    obtain ⟨q, Q, hq, hh⟩ := hs.place hb hl
    rw [hq] at hp; injection hp with hp; subst hp
    exact heap_lt hh
  have hol : ∀ x : AObj, x.own = true → x.live = true := by intro x h; cases x <;> simp_all [AObj.own, AObj.live]
  refine ⟨⟨?_, ?_, ?_⟩, hext, ?_, by simp, ?_, ?_, ?_⟩
  · intro b x h
    rw [Heap.get_push] at h
    split at h
    · rename_i e; subst e; injection h with h; subst h; exact ho
    · exact (hs.obj b x h).grow hext fun B y hy => push_get O hy
  · intro b b' x x' p p' h h' hne hl hw hp hp'
    rw [Heap.get_push] at h h'
    by_cases e : b = H.next
    · have e' : b' ≠ H.next := fun h => hne (e.trans h.symm)
      rw [if_neg e'] at h'
      have := hold b' x' p' h' (hol _ hw) e' hp'
      rw [e, upd_same] at hp; injection hp with hp; subst hp
      simp; omega
    · rw [if_neg e] at h
      by_cases e' : b' = H.next
      · have := hold b x p h hl e hp
        rw [e', upd_same] at hp'; injection hp' with hp'; subst hp'
        simp; omega
      · rw [if_neg e'] at h'
        rw [upd_ne _ _ e] at hp
        rw [upd_ne _ _ e'] at hp'
        exact hs.apart b b' x x' p p' h h' hne hl hw hp hp'
  · intro g hg
    obtain ⟨p, hp, r⟩ := hs.glob g hg
    exact ⟨p, hext _ _ hp, r⟩
  · intro b hb
    exact upd_ne _ _ (by simp at hb; omega)
  · intro b hb hr
    rw [Heap.get_push, if_neg (by simp at hr; omega)]
    exact hb
  · intro x y h hl hw
    rw [Heap.get_push] at h
    split at h
    · injection h with h; subst h; rw [hown] at hw; cases hw
    · exact h
  · refine ⟨by show w.heap.size ≤ (w.heap.push O).size; simp, fun B x h _ => push_get O h, ?_, rfl, rfl, rfl⟩
    rintro B ⟨b, x, p, hb, hx, hp, rfl⟩
    rw [Heap.get_push] at hb
    by_cases e : b = H.next
    · rw [e, upd_same] at hp; injection hp with hp; subst hp
      exact .inl (Nat.le_refl _)
    · rw [if_neg e] at hb
      rw [upd_ne _ _ e] at hp
      exact .inr ⟨b, x, p, hb, hx, hp, rfl⟩

/-! ## the block that grew where it lay: its content is told under a new number -/
theorem Good.retarget {G : Nat} {ρ : Map} {H : Heap} {w : World} {b o n : Nat} {c : List AV} {e e2 : TypeId} {p : Place}
    (hs : Sim G ρ H w) (hn : ρ H.next = none) (hg : H.get b = some (.cells c e true false)) (hp : ρ b = some p) (hfit : o + n ≤ c.length) :
    Good G ρ H w (upd ρ H.next ⟨p.blk, p.off + o, p.tot - o⟩) ((H.set b .dead).push (.cells ((c.drop o).take n) e2 true false)) w := by
  have hext : Ext ρ (upd ρ H.next ⟨p.blk, p.off + o, p.tot - o⟩) := Ext.upd _ hn
  obtain ⟨p1, C, el, fr, hp1, hh, hc, hl1, hl2, hown⟩ := hs.obj b _ hg
  rw [hp] at hp1; injection hp1 with hp1; subst hp1
  obtain ⟨hf, hfr⟩ := hown rfl
  have hbn : b ≠ H.next := by rintro rfl; rw [hn] at hp; exact absurd hp (by simp)
  have hget : ∀ x y, ((H.set b .dead).push (.cells ((c.drop o).take n) e2 true false)).get x = some y → (x = H.next ∧ y = .cells ((c.drop o).take n) e2 true false) ∨ (x ≠ H.next ∧ x = b ∧ y = .dead) ∨ (x ≠ H.next ∧ x ≠ b ∧ H.get x = some y) := by
    intro x y h
    rw [Heap.get_push, Heap.next_set, Heap.get_set] at h
    split at h
    · rename_i e; injection h with h; exact .inl ⟨e, h.symm⟩
    · rename_i e
      split at h
      · rename_i e'; injection h with h; exact .inr (.inl ⟨e, e', h.symm⟩)
      · rename_i e'; exact .inr (.inr ⟨e, e', h⟩)
  refine ⟨⟨?_, ?_, ?_⟩, hext, ?_, by simp, ?_, ?_, ?_⟩
  · intro x y h
    rcases hget x y h with ⟨rfl, rfl⟩ | ⟨_, _, rfl⟩ | ⟨h1, h2, h3⟩
    · refine ⟨_, C, el, fr, upd_same _ _ _, hh, ?_, ?_, ?_, fun _ => ⟨?_, ?_⟩⟩
      · intro i a ha
        rw [List.getElem?_take] at ha
        split at ha
        · rw [List.getElem?_drop] at ha
          obtain ⟨v, hv, r⟩ := hc _ a ha
          exact ⟨v, by simpa [Nat.add_assoc] using hv, VRel.mono hext _ _ r⟩
        · exact absurd ha (by simp)
      · simp only [List.length_take, List.length_drop]; omega
      · simp only [List.length_take, List.length_drop]; omega
      · simp only []; omega
      · rcases hfr with f | ⟨f, _⟩
        · exact .inl f
        · exact absurd f (by simp)
    · trivial
    · exact (hs.obj x y h3).grow hext fun B z hz => hz
  · intro x x' y y' q q' h h' hne hl hw hq hq'
    rcases hget x y h with ⟨rfl, rfl⟩ | ⟨_, _, rfl⟩ | ⟨h1, h2, h3⟩
    · rcases hget x' y' h' with ⟨rfl, rfl⟩ | ⟨_, _, rfl⟩ | ⟨g1, g2, g3⟩
      · exact absurd rfl hne
      · simp [AObj.own] at hw
      · rw [upd_same] at hq; injection hq with hq; subst hq
        rw [upd_ne _ _ g1] at hq'
        exact hs.apart b x' _ _ p q' hg g3 (fun e => g2 e.symm) rfl hw hp hq'
    · simp [AObj.live] at hl
    · rw [upd_ne _ _ h1] at hq
      rcases hget x' y' h' with ⟨rfl, rfl⟩ | ⟨_, _, rfl⟩ | ⟨g1, g2, g3⟩
      · rw [upd_same] at hq'; injection hq' with hq'; subst hq'
        exact hs.apart x b _ _ q p h3 hg h2 hl rfl hq hp
      · simp [AObj.own] at hw
      · rw [upd_ne _ _ g1] at hq'
        exact hs.apart x x' y y' q q' h3 g3 hne hl hw hq hq'
  · intro g hg
    obtain ⟨q, hq, r⟩ := hs.glob g hg
    exact ⟨q, hext _ _ hq, r⟩
  · intro x hx
    exact upd_ne _ _ (by simp at hx; omega)
  · intro x hx hr
    rw [Heap.get_push, Heap.next_set, if_neg (by simp at hr; omega), Heap.get_set]
    split
    · rename_i e'; subst e'; rw [hg] at hx; exact absurd hx (by simp)
    · exact hx
  · intro x y h hl hw
    rcases hget x y h with ⟨rfl, rfl⟩ | ⟨_, _, rfl⟩ | ⟨h1, h2, h3⟩
    · cases hw
    · cases hl
    · exact h3
  · refine ⟨Nat.le_refl _, fun B x h _ => h, ?_, rfl, rfl, rfl⟩
    rintro B ⟨x, y, q, hx, hy, hq, rfl⟩
    right
    rcases hget x y hx with ⟨rfl, rfl⟩ | ⟨_, _, rfl⟩ | ⟨h1, h2, h3⟩
    · rw [upd_same] at hq; injection hq with hq; subst hq
      exact ⟨b, _, p, hg, rfl, hp, rfl⟩
    · simp [AObj.own] at hy
    · rw [upd_ne _ _ h1] at hq
      exact ⟨x, y, q, h3, hy, hq, rfl⟩

/-- One cell more, out of the slack. -/
theorem Good.extend1 {G : Nat} {ρ : Map} {H : Heap} {w : World} {b : Nat} {c : List AV} {e : TypeId} {m : Bool} {p : Place} {a : AV} {v : Value}
    (hs : Sim G ρ H w) (hg : H.get b = some (.cells c e true m)) (ho : c.length < p.tot) (hp : ρ b = some p) (hv : VRel ρ a v) :
    Good G ρ H w ρ (H.set b (.cells (c ++ [a]) e true m)) (w.setCell ⟨p.blk, p.off + c.length, none⟩ v) ∧
    (∃ u, w.cell? ⟨p.blk, p.off + c.length, none⟩ = some u) ∧ w.frozen? ⟨p.blk, p.off + c.length, none⟩ = false := by
  obtain ⟨p1, C, el, fr, hp1, hh, hc, hl1, hl2, hown⟩ := hs.obj b _ hg
  rw [hp] at hp1; injection hp1 with hp1; subst hp1
  obtain ⟨hfit, hfr⟩ := hown rfl
  refine ⟨Good.turned hs hg rfl rfl hp (turned_setCell hh v) rfl ?_, ?_, ?_⟩
  · refine ⟨p, C.setIfInBounds (p.off + c.length) v, el, fr, hp, (turned_setCell hh v).at_, ?_, by simp; omega, by simp; omega, fun _ => ⟨by simpa using hfit, by simpa using hfr⟩⟩
    intro i x hx
    by_cases e' : i = c.length
    · subst e'
      simp at hx; subst hx
      exact ⟨v, by rw [Array.getElem?_setIfInBounds]; simp; omega, hv⟩
    · have hi : i < c.length := by
        rcases Nat.lt_or_ge i (c ++ [a]).length with h | h
        · simp at h; omega
        · rw [List.getElem?_eq_none h] at hx; exact absurd hx (by simp)
      rw [List.getElem?_append_left hi] at hx
      obtain ⟨u, hu, r⟩ := hc i x hx
      exact ⟨u, by rw [Array.getElem?_setIfInBounds]; rw [if_neg (by omega)]; exact hu, r⟩
  · have hlt : p.off + c.length < C.size := by omega
    exact ⟨C[p.off + c.length], by simp [World.cell?, hh, hlt]⟩
  · simp only [World.frozen?, hh]
    rcases hfr with rfl | ⟨_, rfl⟩
    · simp
    · simp; omega

end Go.Abs
