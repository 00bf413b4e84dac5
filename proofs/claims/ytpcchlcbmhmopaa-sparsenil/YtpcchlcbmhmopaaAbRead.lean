/- Arguments that a row hands in, read: whatever they are, an abstract memory of blocks that may only be read bears them. -/
import Derived.Test.YtpcchlcbmhmopaaAbOps2
import Derived.ChangeOld
namespace Go.Abs
set_option linter.unusedVariables false

/-- The parts of a struct lie one behind the other. -/
def tiles (P : Program) : List Field → Nat → Nat → Bool
  | [], o, n => o == n
  | f :: fs, o, n => f.offset == o && tiles P fs (o + P.cellsOf f.type) n

/-- Types that are read here: plain ones, slices, structs, arrays. -/
def readable (P : Program) : Nat → TypeId → Bool
  | 0, _ => false
  | n + 1, t => match P.underlying t with
    | some .bool | some (.int _) | some .string => true
    | some (.slice e) => decide (0 < P.cellsOf e) && readable P n e
    | some (.struct fs) => tiles P fs.toList 0 (P.cellsOf t) && fs.toList.all fun f => readable P n f.type
    | some (.array m e) => decide (0 < P.cellsOf e) && P.cellsOf t == m * P.cellsOf e && readable P n e
    | _ => false

/-- What is known of the cells of an argument of a type. -/
def Pic (P : Program) (H : Heap) : Nat → TypeId → List AV → Prop
  | 0, _, _ => False
  | n + 1, t, acs => match P.underlying t with
    | some .bool => ∃ b, acs = [.bool b]
    | some (.int k) => ∃ z, acs = [.int k z] ∧ (Lit.int k z).wf = true
    | some .string => ∃ s, acs = [.str s] ∧ s.length ≤ maxLen
    | some (.slice e) => acs = [.slice none 0 0 none] ∨ ∃ b len c, acs = [.slice (some (b, 0)) len len (some (P.cellsOf e))] ∧ b < H.next ∧ len ≤ maxLen ∧ c.length = len * P.cellsOf e ∧
        (0 < len → H.get b = some (.cells c e false false)) ∧ ∀ i, i < len → Pic P H n e ((c.drop (i * P.cellsOf e)).take (P.cellsOf e))
    | some (.struct fs) => acs.length = P.cellsOf t ∧ ∀ f ∈ fs.toList, Pic P H n f.type ((acs.drop f.offset).take (P.cellsOf f.type))
    | some (.array m e) => acs.length = P.cellsOf t ∧ ∀ i, i < m → Pic P H n e ((acs.drop (i * P.cellsOf e)).take (P.cellsOf e))
    | _ => False

/-- The memory only grows. -/
def HExt (H H' : Heap) : Prop := H.next ≤ H'.next ∧ ∀ b, b < H.next → H'.get b = H.get b

theorem HExt.refl (H : Heap) : HExt H H := ⟨Nat.le_refl _, fun _ _ => rfl⟩
theorem HExt.trans {H H' H'' : Heap} (h : HExt H H') (g : HExt H' H'') : HExt H H'' :=
  ⟨Nat.le_trans h.1 g.1, fun b hb => (g.2 b (Nat.lt_of_lt_of_le hb h.1)).trans (h.2 b hb)⟩

theorem Pic.mono {P : Program} {H H' : Heap} (h : HExt H H') : ∀ (n : Nat) (t : TypeId) (acs : List AV), Pic P H n t acs → Pic P H' n t acs
  | 0, _, _, hp => hp
  | n + 1, t, acs, hp => by
    unfold Pic at hp ⊢
    split at hp
    · exact hp
    · exact hp
    · exact hp
    · rcases hp with hp | ⟨b, len, c, h1, h2, h3, h4, h5, h6⟩
      · exact .inl hp
      · exact .inr ⟨b, len, c, h1, Nat.lt_of_lt_of_le h2 h.1, h3, h4, fun hl => (h.2 b h2).trans (h5 hl), fun i hi => Pic.mono h n _ _ (h6 i hi)⟩
    · exact ⟨hp.1, fun f hf => Pic.mono h n _ _ (hp.2 f hf)⟩
    · exact ⟨hp.1, fun i hi => Pic.mono h n _ _ (hp.2 i hi)⟩
    · exact hp

/-- What holds of the memory while the arguments are read. -/
structure Held (G : Nat) (ρ : Map) (H : Heap) (w : World) : Prop where
  sim : Sim G ρ H w
  ro : ∀ b o, H.get b = some o → o.own = false
  wf : Wf H
  free : ∀ b, H.next ≤ b → ρ b = none

theorem Held.add {G : Nat} {ρ : Map} {H : Heap} {w : World} (h : Held G ρ H w) (hG : G ≤ H.next) (p : Place) (o : AObj) (ho : o.own = false)
    (hr : ORel (upd ρ H.next p) w H.next o) : Held G (upd ρ H.next p) (H.push o) w := by
  have hnone : ρ H.next = none := h.free _ (Nat.le_refl _)
  have hext := Ext.upd p hnone
  refine ⟨⟨?_, ?_, ?_⟩, ?_, ?_, ?_⟩
  · intro b x hb
    rw [Heap.get_push] at hb
    by_cases e : b = H.next
    · rw [if_pos e] at hb
      injection hb with hb
      subst hb; subst e
      exact hr
    · rw [if_neg e] at hb
      exact (h.sim.obj b x hb).grow hext fun _ _ h => h
  · intro b b' x x' q q' hb hb' hne hl hown
    exfalso
    rw [Heap.get_push] at hb'
    by_cases e : b' = H.next
    · rw [if_pos e] at hb'
      injection hb' with hb'
      subst hb'
      rw [ho] at hown; cases hown
    · rw [if_neg e] at hb'
      rw [h.ro b' x' hb'] at hown; cases hown
  · intro g hg
    obtain ⟨q, hq, r⟩ := h.sim.glob g hg
    exact ⟨q, hext _ _ hq, r⟩
  · intro b x hb
    rw [Heap.get_push] at hb
    by_cases e : b = H.next
    · rw [if_pos e] at hb
      injection hb with hb
      subst hb
      exact ho
    · rw [if_neg e] at hb
      exact h.ro b x hb
  · intro b hb
    rw [Heap.next_push] at hb
    rw [Heap.get_push, if_neg (by omega)]
    exact h.wf b (by omega)
  · intro b hb
    rw [Heap.next_push] at hb
    rw [upd_ne ρ p (by omega)]
    exact h.free b (by omega)

theorem HExt.push {H : Heap} (o : AObj) : HExt H (H.push o) :=
  ⟨by simp, fun b hb => by rw [Heap.get_push, if_neg (by omega)]⟩

/-- What reading gives. -/
def Reads (P : Program) (w : World) (ρ : Map) (H : Heap) (n : Nat) (t : TypeId) (cs : List Value) : Prop :=
  ∃ ρ' H' acs, Held P.globals.size ρ' H' w ∧ Ext ρ ρ' ∧ HExt H H' ∧ VRels ρ' acs cs ∧ Pic P H' n t acs

theorem VRels.len {ρ : Map} {a : List AV} {l : List Value} (h : VRels ρ a l) : a.length = l.length := (VRels.length h).symm

/-- Pieces of a length, one behind the other, each of them read. -/
theorem reads_pieces {P : Program} {w : World} {n : Nat} {e : TypeId} {s : Nat} {cs : List Value}
    (ih : ∀ (ρ : Map) (H : Heap) (i : Nat), (i + 1) * s ≤ cs.length → Held P.globals.size ρ H w → P.globals.size ≤ H.next → Reads P w ρ H n e ((cs.drop (i * s)).take s)) :
    ∀ (k : Nat) (ρ : Map) (H : Heap), k * s ≤ cs.length → Held P.globals.size ρ H w → P.globals.size ≤ H.next →
      ∃ ρ' H' acs, Held P.globals.size ρ' H' w ∧ Ext ρ ρ' ∧ HExt H H' ∧ VRels ρ' acs (cs.take (k * s)) ∧ ∀ i, i < k → Pic P H' n e ((acs.drop (i * s)).take s)
  | 0, ρ, H, _, hi, _ => ⟨ρ, H, [], hi, Ext.refl ρ, HExt.refl H, by simp [VRels], fun i h => by omega⟩
  | k + 1, ρ, H, hk, hi, hG => by
    have hks : (k + 1) * s = k * s + s := by rw [Nat.add_mul]; omega
    obtain ⟨ρ1, H1, a1, i1, e1, x1, v1, p1⟩ := reads_pieces ih k ρ H (by omega) hi hG
    obtain ⟨ρ2, H2, a2, i2, e2, x2, v2, p2⟩ := ih ρ1 H1 k hk i1 (Nat.le_trans hG x1.1)
    have hl1 : a1.length = k * s := by rw [v1.len]; simp; omega
    have hl2 : a2.length = s := by rw [v2.len]; simp; omega
    refine ⟨ρ2, H2, a1 ++ a2, i2, e1.trans e2, x1.trans x2, ?_, ?_⟩
    · have : cs.take ((k + 1) * s) = cs.take (k * s) ++ (cs.drop (k * s)).take s := by
        rw [hks, List.take_add]
      rw [this]
      exact (VRels.mono e2 _ _ v1).append v2
    · intro i hik
      by_cases h : i < k
      · have hb : (i + 1) * s ≤ k * s := Nat.mul_le_mul_right _ h
        rw [Nat.add_mul] at hb
        rw [List.drop_append_of_le_length (by omega), List.take_append_of_le_length (by simp; omega)]
        exact Pic.mono x2 _ _ _ (p1 i h)
      · have : i = k := by omega
        subst this
        rw [List.drop_append, ← hl1]
        simp only [List.drop_length, Nat.sub_self, List.drop_zero, List.nil_append]
        rw [List.take_of_length_le (by omega)]
        exact p2

theorem reads_fields {P : Program} {w : World} {n : Nat} {cs : List Value} :
    ∀ (fs : List Field) (o : Nat) (ρ : Map) (H : Heap) (a0 : List AV), tiles P fs o cs.length = true →
      (∀ f ∈ fs, ∀ (ρ : Map) (H : Heap), Held P.globals.size ρ H w → P.globals.size ≤ H.next → Reads P w ρ H n f.type ((cs.drop f.offset).take (P.cellsOf f.type))) →
      Held P.globals.size ρ H w → P.globals.size ≤ H.next → o ≤ cs.length → VRels ρ a0 (cs.take o) →
      ∃ ρ' H' acs, Held P.globals.size ρ' H' w ∧ Ext ρ ρ' ∧ HExt H H' ∧ VRels ρ' acs cs ∧ acs.take o = a0 ∧ ∀ f ∈ fs, Pic P H' n f.type ((acs.drop f.offset).take (P.cellsOf f.type))
  | [], o, ρ, H, a0, ht, _, hi, _, ho, hv => by
    have e : o = cs.length := by simpa [tiles] using ht
    subst e
    rw [List.take_length] at hv
    exact ⟨ρ, H, a0, hi, Ext.refl ρ, HExt.refl H, hv, by rw [← hv.len, List.take_length], fun f h => by simp at h⟩
  | f :: fs, o, ρ, H, a0, ht, hf, hi, hG, ho, hv => by
    simp only [tiles, Bool.and_eq_true, beq_iff_eq] at ht
    obtain ⟨hoff, ht⟩ := ht
    have hle : ∀ (gs : List Field) (o n : Nat), tiles P gs o n = true → o ≤ n := by
      intro gs
      induction gs with
      | nil => intro o n h; simp [tiles] at h; omega
      | cons g gs ih => intro o n h; simp only [tiles, Bool.and_eq_true] at h; have := ih _ _ h.2; omega
    have hle' := hle _ _ _ ht
    obtain ⟨ρ1, H1, a1, i1, e1, x1, v1, p1⟩ := hf f (by simp) ρ H hi hG
    rw [hoff] at v1
    have hl0 : a0.length = o := by rw [hv.len]; simp; omega
    have hl1 : a1.length = P.cellsOf f.type := by rw [v1.len]; simp; omega
    have hv' : VRels ρ1 (a0 ++ a1) (cs.take (o + P.cellsOf f.type)) := by
      rw [List.take_add]
      exact (VRels.mono e1 _ _ hv).append v1
    obtain ⟨ρ2, H2, acs, i2, e2, x2, v2, t2, p2⟩ := reads_fields fs (o + P.cellsOf f.type) ρ1 H1 (a0 ++ a1) ht (fun g hg => hf g (by simp [hg])) i1 (Nat.le_trans hG x1.1) hle' hv'
    refine ⟨ρ2, H2, acs, i2, e1.trans e2, x1.trans x2, v2, ?_, ?_⟩
    · have := congrArg (List.take o) t2
      rw [List.take_take, Nat.min_eq_left (by omega), List.take_append_of_le_length (by omega), ← hl0, List.take_length] at this
      rw [← hl0]; exact this
    · intro g hg
      rcases List.mem_cons.1 hg with rfl | hg
      · have := congrArg (List.drop o) t2
        rw [← List.take_drop, List.drop_append_of_le_length (by omega), List.drop_of_length_le (by omega : a0.length ≤ o), List.nil_append] at this
        rw [hoff, this]
        exact Pic.mono x2 _ _ _ p1
      · exact p2 g hg

theorem cells?_facts {w : World} {a : Addr} {n : Nat} {cs : List Value} (h : w.cells? 0 a n = some cs) : cs.length = n ∧ ∀ i, i < n → w.cell? (a.add i) = cs[i]? := by
  simp only [World.cells?, Nat.zero_le, if_true] at h
  refine ⟨by simpa using mapM_some_length h, fun i hi => ?_⟩
  have := mapM_some_get h i i (by simp [hi])
  exact this

theorem cell?_block {w : World} {a : Addr} {v : Value} (h : w.cell? a = some v) : a.spot = none ∧ ∃ C e fr, w.heap[a.block]? = some (.cells C e fr) ∧ C[a.off]? = some v := by
  unfold World.cell? at h
  split at h
  · rename_i C e fr hh
    split at h
    · cases h
    · rename_i hs
      exact ⟨by simpa using hs, C, e, fr, hh, h⟩
  · cases h

end Go.Abs
