/- What it means that a world bears an abstract memory; that a run keeps what is not its own. -/
import Derived.Test.YtpcchlcbmhmopaaAbRun
namespace Go.Abs
set_option linter.unusedVariables false

/-- Where an abstract block lies: in which block of the world, from which cell on, and how many cells are its own. -/
structure Place where
  blk : Nat
  off : Nat
  tot : Nat

abbrev Map := Nat → Option Place

mutual
def VRel (ρ : Map) : AV → Value → Prop
  | .bool b, v => v = .bool b
  | .int k n, v => v = .int k n
  | .str s, v => v = .string ⟨s.toArray⟩
  | .ptr none, v => v = .pointer none
  | .ptr (some a), v => ∃ p, ρ a.1 = some p ∧ v = .pointer (some ⟨p.blk, p.off + a.2, none⟩)
  | .slice none n c _, v => n = 0 ∧ c = 0 ∧ v = .slice none 0 0
  | .slice (some a) n c sl, v => ∃ p x c', ρ a.1 = some p ∧ v = .slice (some x) n c' ∧ n ≤ c ∧ c ≤ c' ∧
      (c' = 0 ∨ x = ⟨p.blk, p.off + a.2, none⟩) ∧ (c' = c ∨ ∃ s, sl = some s ∧ a.2 + c' * s ≤ p.tot)
  | .map none, v => v = .map none
  | .map (some r), v => ∃ p, ρ r = some p ∧ p.off = 0 ∧ v = .map (some p.blk)
  | .func f xs ys, v => ∃ us vs, v = .func f us vs ∧ VRels ρ xs us.toList ∧ VRels ρ ys vs.toList
  | .nilFunc, v => v = .nilFunc
  | .iface t x, v => ∃ y, v = .iface t y ∧ VRel ρ x y
  | .nilIface, v => v = .nilIface
  | .agg cs, v => ∃ ds, v = .agg ds ∧ VRels ρ cs ds.toList
  | .tuple cs, v => ∃ ds, v = .tuple ds ∧ VRels ρ cs ds.toList
def VRels (ρ : Map) : List AV → List Value → Prop
  | [], l => l = []
  | x :: xs, l => ∃ y ys, l = y :: ys ∧ VRel ρ x y ∧ VRels ρ xs ys
end

def Ext (ρ ρ' : Map) : Prop := ∀ b p, ρ b = some p → ρ' b = some p

theorem Ext.refl (ρ : Map) : Ext ρ ρ := fun _ _ h => h
theorem Ext.trans {ρ ρ' ρ'' : Map} (h : Ext ρ ρ') (h' : Ext ρ' ρ'') : Ext ρ ρ'' := fun b p x => h' b p (h b p x)

mutual
theorem VRel.mono {ρ ρ' : Map} (e : Ext ρ ρ') : ∀ (a : AV) (v : Value), VRel ρ a v → VRel ρ' a v
  | .bool _, _, h => h
  | .int _ _, _, h => h
  | .str _, _, h => h
  | .ptr none, _, h => h
  | .ptr (some _), _, ⟨p, h, r⟩ => ⟨p, e _ _ h, r⟩
  | .slice none _ _ _, _, h => h
  | .slice (some _) _ _ _, _, ⟨p, x, c', h, r⟩ => ⟨p, x, c', e _ _ h, r⟩
  | .map none, _, h => h
  | .map (some _), _, ⟨p, h, r⟩ => ⟨p, e _ _ h, r⟩
  | .func _ xs ys, _, ⟨us, vs, h, a, b⟩ => ⟨us, vs, h, VRels.mono e xs _ a, VRels.mono e ys _ b⟩
  | .nilFunc, _, h => h
  | .iface _ x, _, ⟨y, h, a⟩ => ⟨y, h, VRel.mono e x _ a⟩
  | .nilIface, _, h => h
  | .agg cs, _, ⟨ds, h, a⟩ => ⟨ds, h, VRels.mono e cs _ a⟩
  | .tuple cs, _, ⟨ds, h, a⟩ => ⟨ds, h, VRels.mono e cs _ a⟩
theorem VRels.mono {ρ ρ' : Map} (e : Ext ρ ρ') : ∀ (l : List AV) (m : List Value), VRels ρ l m → VRels ρ' l m
  | [], _, h => h
  | x :: xs, _, ⟨y, ys, h, a, b⟩ => ⟨y, ys, h, VRel.mono e x _ a, VRels.mono e xs _ b⟩
end

theorem VRels.length {ρ : Map} : ∀ {l : List AV} {m : List Value}, VRels ρ l m → m.length = l.length
  | [], _, h => by cases h; rfl
  | _ :: _, _, ⟨_, _, h, _, b⟩ => by subst h; simp [VRels.length b]

theorem VRels.get {ρ : Map} : ∀ {l : List AV} {m : List Value} (i : Nat) (a : AV), VRels ρ l m → l[i]? = some a → ∃ v, m[i]? = some v ∧ VRel ρ a v
  | [], _, i, a, h, e => by simp at e
  | x :: xs, _, 0, a, ⟨y, ys, h, hx, _⟩, e => by subst h; simp at e; subst e; exact ⟨y, by simp, hx⟩
  | x :: xs, _, i + 1, a, ⟨y, ys, h, _, hs⟩, e => by subst h; simp at e; simpa using VRels.get i a hs e

theorem VRels.mk {ρ : Map} : ∀ {l : List AV} {m : List Value}, m.length = l.length → (∀ (i : Nat) (a : AV) (v : Value), l[i]? = some a → m[i]? = some v → VRel ρ a v) → VRels ρ l m
  | [], m, h, _ => by simpa [VRels] using h
  | x :: xs, [], h, _ => by simp at h
  | x :: xs, y :: ys, h, g => ⟨y, ys, rfl, g 0 x y (by simp) (by simp), VRels.mk (by simpa using h) fun i a v ha hv => g (i + 1) a v (by simpa using ha) (by simpa using hv)⟩

theorem VRels.append {ρ : Map} : ∀ {l l' : List AV} {m m' : List Value}, VRels ρ l m → VRels ρ l' m' → VRels ρ (l ++ l') (m ++ m')
  | [], _, _, _, h, h' => by cases h; simpa using h'
  | _ :: _, _, _, _, ⟨y, ys, h, a, b⟩, h' => by subst h; exact ⟨y, ys ++ _, rfl, a, VRels.append b h'⟩

theorem VRels.take {ρ : Map} : ∀ {l : List AV} {m : List Value} (n : Nat), VRels ρ l m → VRels ρ (l.take n) (m.take n)
  | [], _, n, h => by cases h; simp [VRels]
  | _ :: _, _, 0, _ => by simp [VRels]
  | _ :: _, _, n + 1, ⟨y, ys, h, a, b⟩ => by subst h; exact ⟨y, _, rfl, a, VRels.take n b⟩

theorem VRels.drop {ρ : Map} : ∀ {l : List AV} {m : List Value} (n : Nat), VRels ρ l m → VRels ρ (l.drop n) (m.drop n)
  | [], _, n, h => by cases h; simp [VRels]
  | _ :: _, _, 0, h => by simpa using h
  | _ :: _, _, n + 1, ⟨y, ys, h, a, b⟩ => by subst h; simpa using VRels.drop n b

theorem VRels.set {ρ : Map} : ∀ {l : List AV} {m : List Value} (i : Nat) {a : AV} {v : Value}, VRels ρ l m → VRel ρ a v → VRels ρ (l.set i a) (m.set i v)
  | [], _, i, a, v, h, _ => by cases h; simp [VRels]
  | _ :: _, _, 0, a, v, ⟨y, ys, h, _, b⟩, g => by subst h; exact ⟨v, ys, rfl, g, b⟩
  | _ :: _, _, i + 1, a, v, ⟨y, ys, h, x, b⟩, g => by subst h; exact ⟨y, _, rfl, x, VRels.set i b g⟩

theorem VRels.map_eq {ρ : Map} {α : Type} (f : α → AV) (g : α → Value) (h : ∀ x, VRel ρ (f x) (g x)) : ∀ l : List α, VRels ρ (l.map f) (l.map g)
  | [] => rfl
  | x :: xs => ⟨g x, _, rfl, h x, VRels.map_eq f g h xs⟩

theorem VRel.undef (ρ : Map) : VRel ρ .undef (Go.undef) := ⟨#[], rfl, rfl⟩

/-- The parts of a value. -/
theorem VRel.cells {ρ : Map} : ∀ {a : AV} {v : Value}, VRel ρ a v → VRels ρ a.cells v.cells.toList := by
  intro a v h
  cases a
  case agg cs => obtain ⟨ds, rfl, h⟩ := h; exact h
  case bool b => cases h; exact ⟨_, [], rfl, rfl, rfl⟩
  case int k n => cases h; exact ⟨_, [], rfl, rfl, rfl⟩
  case str s => cases h; exact ⟨_, [], rfl, rfl, rfl⟩
  case nilFunc => cases h; exact ⟨_, [], rfl, rfl, rfl⟩
  case nilIface => cases h; exact ⟨_, [], rfl, rfl, rfl⟩
  case ptr o => cases o with
    | none => cases h; exact ⟨_, [], rfl, rfl, rfl⟩
    | some o => obtain ⟨p, hp, rfl⟩ := h; exact ⟨_, [], rfl, ⟨p, hp, rfl⟩, rfl⟩
  case slice o n c sl => cases o with
    | none => obtain ⟨h1, h2, rfl⟩ := h; exact ⟨_, [], rfl, ⟨h1, h2, rfl⟩, rfl⟩
    | some o => obtain ⟨p, x, c', hp, rfl, r⟩ := h; exact ⟨_, [], rfl, ⟨p, x, c', hp, rfl, r⟩, rfl⟩
  case map o => cases o with
    | none => cases h; exact ⟨_, [], rfl, rfl, rfl⟩
    | some o => obtain ⟨p, hp, h0, rfl⟩ := h; exact ⟨_, [], rfl, ⟨p, hp, h0, rfl⟩, rfl⟩
  case func f xs ys => obtain ⟨us, vs, rfl, r⟩ := h; exact ⟨_, [], rfl, ⟨us, vs, rfl, r⟩, rfl⟩
  case iface t x => obtain ⟨y, rfl, r⟩ := h; exact ⟨_, [], rfl, ⟨y, rfl, r⟩, rfl⟩
  case tuple vs => obtain ⟨ds, rfl, r⟩ := h; exact ⟨_, [], rfl, ⟨ds, rfl, r⟩, rfl⟩

/-- A value of one cell is one in the world. -/
theorem VRel.one {ρ : Map} {a : AV} {v : Value} (h : VRel ρ a v) (ho : a.one = true) : (∀ cs, v ≠ .agg cs) ∧ (∀ cs, v ≠ .tuple cs) := by
  cases a
  case agg => simp [AV.one] at ho
  case tuple => simp [AV.one] at ho
  case bool => cases h; simp
  case int => cases h; simp
  case str => cases h; simp
  case nilFunc => cases h; simp
  case nilIface => cases h; simp
  case ptr o => cases o with
    | none => cases h; simp
    | some o => obtain ⟨p, hp, rfl⟩ := h; simp
  case slice o n c sl => cases o with
    | none => obtain ⟨_, _, rfl⟩ := h; simp
    | some o => obtain ⟨p, x, c', hp, rfl, r⟩ := h; simp
  case map o => cases o with
    | none => cases h; simp
    | some o => obtain ⟨p, hp, h0, rfl⟩ := h; simp
  case func f xs ys => obtain ⟨us, vs, rfl, r⟩ := h; simp
  case iface t x => obtain ⟨y, rfl, r⟩ := h; simp

/-! ## constants -/
theorem ofBasic_rel {v : Value} {a : AV} (h : ofBasic v = some a) (ρ : Map) : VRel ρ a v := by
  unfold ofBasic at h
  split at h <;> (first | (injection h with h; subst h; first | rfl | exact ⟨rfl, rfl, rfl⟩) | (exact absurd h (by simp)))

theorem mapOpt_some {α β : Type} {f : α → Option β} : ∀ {l : List α} {m : List β}, mapOpt f l = some m → m.length = l.length ∧ ∀ (i : Nat) (x : α), l[i]? = some x → ∃ y, f x = some y ∧ m[i]? = some y
  | [], m, h => by simp [mapOpt] at h; subst h; simp
  | x :: xs, m, h => by
    simp only [mapOpt] at h
    cases hx : f x with
    | none => simp [hx] at h
    | some y =>
      cases hs : mapOpt f xs with
      | none => simp [hx, hs] at h
      | some ys =>
        simp [hx, hs] at h
        subst h
        obtain ⟨hl, hg⟩ := mapOpt_some hs
        refine ⟨by simp [hl], fun i z hz => ?_⟩
        cases i with
        | zero => simp at hz; subst hz; exact ⟨y, hx, by simp⟩
        | succ i => simpa using hg i z (by simpa using hz)

theorem mapOpt_rel {ρ : Map} {α : Type} {f : α → Option AV} {g : α → Value} (h : ∀ x a, f x = some a → VRel ρ a (g x)) : ∀ {l : List α} {m : List AV}, mapOpt f l = some m → VRels ρ m (l.map g)
  | [], m, e => by simp [mapOpt] at e; subst e; rfl
  | x :: xs, m, e => by
    simp only [mapOpt] at e
    cases hx : f x with
    | none => simp [hx] at e
    | some y =>
      cases hs : mapOpt f xs with
      | none => simp [hx, hs] at e
      | some ys =>
        simp [hx, hs] at e
        subst e
        exact ⟨g x, _, rfl, h x y hx, mapOpt_rel h hs⟩

theorem ofConst_rel {v : Value} {a : AV} (h : ofConst v = some a) (ρ : Map) : VRel ρ a v := by
  unfold ofConst at h
  split at h
  · rename_i cs
    cases hm : mapOpt ofBasic cs.toList with
    | none => simp [hm] at h
    | some l =>
      simp [hm] at h
      subst h
      refine ⟨cs, rfl, ?_⟩
      have := mapOpt_rel (ρ := ρ) (g := id) (fun x a hx => ofBasic_rel hx ρ) hm
      simpa using this
  · exact ofBasic_rel h ρ

/-! ## memory -/
def AObj.own : AObj → Bool
  | .cells _ _ own _ => own
  | .map _ => true
  | .dead => false

def AObj.live : AObj → Bool
  | .dead => false
  | _ => true

def KRels (ρ : Map) : List (AV × AV) → List MapEntry → Prop
  | [], l => l = []
  | (k, v) :: r, l => ∃ e es, l = e :: es ∧ VRel ρ k e.key ∧ VRel ρ v e.val ∧ KRels ρ r es

theorem KRels.mono {ρ ρ' : Map} (e : Ext ρ ρ') : ∀ (l : List (AV × AV)) (m : List MapEntry), KRels ρ l m → KRels ρ' l m
  | [], _, h => h
  | (_, _) :: r, _, ⟨x, xs, h, a, b, c⟩ => ⟨x, xs, h, VRel.mono e _ _ a, VRel.mono e _ _ b, KRels.mono e r _ c⟩

/-- The cells from a place on bear these values. -/
def CRel (ρ : Map) (c : List AV) (C : Array Value) (off : Nat) : Prop :=
  ∀ i a, c[i]? = some a → ∃ v, C[off + i]? = some v ∧ VRel ρ a v

def ORel (ρ : Map) (w : World) (b : Nat) : AObj → Prop
  | .cells c _ own mk => ∃ p C e fr, ρ b = some p ∧ w.heap[p.blk]? = some (.cells C e fr) ∧ CRel ρ c C p.off ∧ p.off + c.length ≤ C.size ∧ c.length ≤ p.tot ∧
      (own = true → p.off + p.tot ≤ C.size ∧ (fr = (0, 0) ∨ (mk = true ∧ fr = (C.size, C.size + 1))))
  | .map es => ∃ p m clock, ρ b = some p ∧ p.off = 0 ∧ p.tot = 1 ∧ w.heap[p.blk]? = some (.map m clock) ∧ KRels ρ es m.toList
  | .dead => True

structure Sim (G : Nat) (ρ : Map) (H : Heap) (w : World) : Prop where
  obj : ∀ b o, H.get b = some o → ORel ρ w b o
  apart : ∀ b b' o o' p p', H.get b = some o → H.get b' = some o' → b ≠ b' → o.live = true → o'.own = true → ρ b = some p → ρ b' = some p' → p.blk ≠ p'.blk
  glob : ∀ g, g < G → ∃ p, ρ g = some p ∧ p.blk = g ∧ p.off = 0

/-- The world's block is the run's own. -/
def OwnsBlk (ρ : Map) (H : Heap) (B : Nat) : Prop := ∃ b o p, H.get b = some o ∧ o.own = true ∧ ρ b = some p ∧ p.blk = B

structure Keeps (ρ : Map) (H : Heap) (w : World) (ρ' : Map) (H' : Heap) (w' : World) : Prop where
  size : w.heap.size ≤ w'.heap.size
  kept : ∀ (B : Nat) (o : Obj), w.heap[B]? = some o → ¬ OwnsBlk ρ H B → w'.heap[B]? = some o
  owns : ∀ B, OwnsBlk ρ' H' B → w.heap.size ≤ B ∨ OwnsBlk ρ H B
  tape : w'.tape = w.tape
  os : w'.os = w.os
  output : w'.output = w.output

/-- A step of the abstract machine, and a step of the world that goes with it. -/
structure Good (G : Nat) (ρ : Map) (H : Heap) (w : World) (ρ' : Map) (H' : Heap) (w' : World) : Prop where
  sim : Sim G ρ' H' w'
  ext : Ext ρ ρ'
  out : ∀ b, (b < H.next ∨ H'.next ≤ b) → ρ' b = ρ b
  next : H.next ≤ H'.next
  dom : ∀ b, H.get b = none → (b < H.next ∨ H'.next ≤ b) → H'.get b = none
  ro : ∀ b o, H'.get b = some o → o.live = true → o.own = false → H.get b = some o
  keeps : Keeps ρ H w ρ' H' w'

theorem Keeps.refl (ρ : Map) (H : Heap) (w : World) : Keeps ρ H w ρ H w where
  size := Nat.le_refl _
  kept := fun _ _ h _ => h
  owns := fun _ h => .inr h
  tape := rfl
  os := rfl
  output := rfl

theorem heap_lt {w : World} {B : Nat} {o : Obj} (h : w.heap[B]? = some o) : B < w.heap.size := by
  obtain ⟨h, _⟩ := Array.getElem?_eq_some_iff.1 h
  exact h

theorem Keeps.trans {ρ ρ1 ρ2 : Map} {H H1 H2 : Heap} {w w1 w2 : World} (h : Keeps ρ H w ρ1 H1 w1) (g : Keeps ρ1 H1 w1 ρ2 H2 w2) : Keeps ρ H w ρ2 H2 w2 where
  size := Nat.le_trans h.size g.size
  kept := by
    intro B o hB ho
    refine g.kept B o (h.kept B o hB ho) fun hx => ?_
    rcases h.owns B hx with hge | hx
    · have := heap_lt hB; omega
    · exact ho hx
  owns := by
    intro B hx
    rcases g.owns B hx with hge | hx
    · left; have := h.size; omega
    · exact h.owns B hx
  tape := g.tape.trans h.tape
  os := g.os.trans h.os
  output := g.output.trans h.output

theorem Good.wf {G : Nat} {ρ ρ' : Map} {H H' : Heap} {w w' : World} (h : Good G ρ H w ρ' H' w') (hw : ∀ b, H.next ≤ b → H.get b = none) : ∀ b, H'.next ≤ b → H'.get b = none := by
  intro b hb
  have := h.next
  exact h.dom b (hw b (by omega)) (.inr hb)

theorem Good.refl {G : Nat} {ρ : Map} {H : Heap} {w : World} (h : Sim G ρ H w) : Good G ρ H w ρ H w where
  sim := h
  ext := Ext.refl ρ
  out := fun _ _ => rfl
  next := Nat.le_refl _
  dom := fun _ h _ => h
  ro := fun _ _ h _ _ => h
  keeps := Keeps.refl ρ H w

theorem Good.trans {G : Nat} {ρ ρ1 ρ2 : Map} {H H1 H2 : Heap} {w w1 w2 : World} (h : Good G ρ H w ρ1 H1 w1) (g : Good G ρ1 H1 w1 ρ2 H2 w2) : Good G ρ H w ρ2 H2 w2 where
  sim := g.sim
  ext := h.ext.trans g.ext
  out := by
    intro b hb
    have h1 := h.next
    have h2 := g.next
    rw [g.out b (by omega), h.out b (by omega)]
  next := Nat.le_trans h.next g.next
  dom := by
    intro b hb ho
    have h1 := h.next
    have h2 := g.next
    exact g.dom b (h.dom b hb (by omega)) (by omega)
  ro := fun b o ho hl hw => h.ro b o (g.ro b o ho hl hw) hl hw
  keeps := h.keeps.trans g.keeps

end Go.Abs
