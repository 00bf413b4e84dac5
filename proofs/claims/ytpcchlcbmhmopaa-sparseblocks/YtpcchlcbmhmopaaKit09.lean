/- Texts on the abstract machine, joined. -/
import Derived.Test.YtpcchlcbmhmopaaKit08
import Derived.Test.YtpcchlcbmhmopaaKit06

/- Arguments that come in, told as slices and lists. -/
namespace Go.Abs
set_option linter.unusedVariables false

/-- A text out of a slice of bytes. -/
theorem conv_sl {P : Program} {H : Heap} {s t : TypeId} {v : AV} {bs : List UInt8} (h1 : bytesT P s = true) (h2 : isStrT P t = true) (h : Sl H 1 v bs.length (cellsOfBytes bs)) (hv : ∀ b o n c x, v = .slice (some (b, o)) n c x → b < H.next ∧ ∃ cs t w m, H.get b = some (.cells cs t w m) ∧ o + n ≤ cs.length) : convR P s t (some v) H = some (.str bs, H) := by
  unfold Sl at h
  obtain ⟨hl, h⟩ := h
  rcases h with ⟨rfl, h0⟩ | ⟨b, o, cap, ex, rfl, hc, hx, h⟩
  · rw [convR_bytesnil]
    simp only [h1, h2, Bool.and_self, if_true]
    have : bs = [] := List.eq_nil_of_length_eq_zero h0
    rw [this]
  · rw [convR_bytes]
    simp only [h1, h2, Bool.and_self, if_true]
    by_cases h0 : 0 < bs.length
    · obtain ⟨_, c, t', w, m, q2, q3, q4⟩ := h h0
      rw [Nat.mul_one] at q3 q4
      simp only [q2]
      rw [if_pos q3, q4, bytesOfCells_of]
    · obtain ⟨_, c, t', w, m, q2, q3⟩ := hv b o _ cap ex rfl
      have h00 : bs.length = 0 := by omega
      have hbs : bs = [] := List.eq_nil_of_length_eq_zero h00
      subst hbs
      simp only [q2]
      rw [if_pos q3]
      simp [bytesOfCells]
theorem list_of {α : Type} {p : Nat → α → Prop} : ∀ {n : Nat}, (∀ i, i < n → ∃ x, p i x) → ∃ l : List α, l.length = n ∧ ∀ i x, l[i]? = some x → p i x
  | 0, _ => ⟨[], rfl, fun i x h => by simp at h⟩
  | n + 1, h => by
    obtain ⟨l, hl, hp⟩ := list_of (n := n) fun i hi => h i (by omega)
    obtain ⟨x, hx⟩ := h n (by omega)
    refine ⟨l ++ [x], by simp [hl], fun i y hy => ?_⟩
    by_cases hi : i < l.length
    · rw [List.getElem?_append_left hi] at hy; exact hp i y hy
    · rw [List.getElem?_append_right (by omega)] at hy
      have : i - l.length = 0 := by
        by_cases e : i - l.length = 0
        · exact e
        · rw [List.getElem?_eq_none (by simp; omega)] at hy; cases hy
      rw [this] at hy
      simp at hy
      subst hy
      rw [show i = n from by omega]
      exact hx

theorem pic_slice {P : Program} {H : Heap} {n : Nat} {t e s : Nat} {v : AV} (hu : P.underlying t = some (.slice e)) (hs : P.cellsOf e = s) (h : Pic P H (n + 1) t [v]) :
    ∃ len c, Sl H s v len c ∧ len ≤ maxLen ∧ (∀ b, slBlock v = some b → b < H.next) ∧ ∀ i, i < len → Pic P H n e ((c.drop (i * s)).take s) := by
  unfold Pic at h
  simp only [hu, hs] at h
  rcases h with h | ⟨b, len, c, h1, h2, h3, h4, h5, h6⟩
  · simp at h
    subst h
    exact ⟨0, [], Sl.nil, by unfold maxLen; omega, by simp [slBlock], fun i hi => by omega⟩
  · simp at h1
    subst h1
    refine ⟨len, c, ?_, h3, by simp [slBlock]; omega, h6⟩
    unfold Sl
    exact ⟨h4, .inr ⟨b, 0, len, some s, rfl, Nat.le_refl _, .inr rfl, fun h0 => ⟨h2, c, e, false, false, h5 h0, by omega, by rw [List.drop_zero, List.take_of_length_le (by omega)]⟩⟩⟩

theorem pic_int {P : Program} {H : Heap} {n t : Nat} {k : IntKind} {cs : List AV} (hu : P.underlying t = some (.int k)) (h : Pic P H (n + 1) t cs) : ∃ z, cs = [.int k z] ∧ (Lit.int k z).wf = true := by
  unfold Pic at h
  simpa only [hu] using h
theorem pic_bool {P : Program} {H : Heap} {n t : Nat} {cs : List AV} (hu : P.underlying t = some .bool) (h : Pic P H (n + 1) t cs) : ∃ z, cs = [.bool z] := by
  unfold Pic at h
  simpa only [hu] using h
theorem pic_str {P : Program} {H : Heap} {n t : Nat} {cs : List AV} (hu : P.underlying t = some .string) (h : Pic P H (n + 1) t cs) : ∃ z, cs = [.str z] ∧ z.length ≤ maxLen := by
  unfold Pic at h
  simpa only [hu] using h
theorem i64_wf {z : Int} (h : (Lit.int .i64 z).wf = true) : -9223372036854775808 ≤ z ∧ z ≤ 9223372036854775807 := by
  simp [Lit.wf, IntKind.min, IntKind.max, IntKind.signed, IntKind.bits] at h
  omega
theorem u8_wf {z : Int} (h : (Lit.int .u8 z).wf = true) : 0 ≤ z ∧ z ≤ 255 := by
  simp [Lit.wf, IntKind.min, IntKind.max, IntKind.signed, IntKind.bits] at h
  omega

theorem cells_of_u8 : ∀ (n : Nat) (c : List AV), c.length = n → (∀ i, i < n → ∃ z, (c.drop i).take 1 = [.int .u8 z] ∧ 0 ≤ z ∧ z ≤ 255) → ∃ bs, bs.length = n ∧ c = cellsOfBytes bs
  | 0, c, hl, _ => ⟨[], rfl, by rw [List.eq_nil_of_length_eq_zero hl]; rfl⟩
  | n + 1, c, hl, h => by
    cases c with
    | nil => simp at hl
    | cons x c =>
      obtain ⟨bs, h1, h2⟩ := cells_of_u8 n c (by simpa using hl) fun i hi => by
        have := h (i + 1) (by omega)
        simpa using this
      obtain ⟨z, hz, h3, h4⟩ := h 0 (by omega)
      simp at hz
      refine ⟨UInt8.ofNat z.toNat :: bs, by simp [h1], ?_⟩
      have e : cellsOfBytes (UInt8.ofNat z.toNat :: bs) = .int .u8 (UInt8.ofNat z.toNat).toNat :: cellsOfBytes bs := rfl
      rw [e, hz, h2]
      congr 2
      have : (UInt8.ofNat z.toNat).toNat = z.toNat := by rw [UInt8.toNat_ofNat']; exact Nat.mod_eq_of_lt (by omega)
      rw [this]
      omega

theorem pic_bytes {P : Program} {H : Heap} {n t e : Nat} {v : AV} (hu : P.underlying t = some (.slice e)) (hs : P.cellsOf e = 1) (he : P.underlying e = some (.int .u8)) (h : Pic P H (n + 2) t [v]) :
    ∃ bs, Sl H 1 v bs.length (cellsOfBytes bs) ∧ bs.length ≤ maxLen ∧ (∀ b, slBlock v = some b → b < H.next) := by
  obtain ⟨len, c, h1, h2, h3, h4⟩ := pic_slice hu hs h
  obtain ⟨bs, h5, h6⟩ := cells_of_u8 len c (by have := h1.len; omega) fun i hi => by
    have := h4 i hi
    rw [Nat.mul_one] at this
    obtain ⟨z, hz, hw⟩ := pic_int he this
    exact ⟨z, hz, u8_wf hw⟩
  exact ⟨bs, by rw [h5, ← h6]; exact h1, by omega, h3⟩
end Go.Abs

/- What every row of a law wants, whatever the seat. -/
namespace Go.Abs
set_option linter.unusedVariables false

theorem closedPrims_rl (l : List (FuncId × AV)) : PrimsRl (closedPrims l) := by
  intro f g hf args H v H' hg
  unfold closedPrims at hf
  split at hf
  · injection hf with hf
    subst hf
    simp only [] at hg
    split at hg
    · injection hg with hg; injection hg with _ hg; subst hg; exact Rl.refl _
    · cases hg
  · cases hf

/-- Are they alike (plain values only). -/
def sameAV : AV → AV → Bool
  | .bool a, .bool b => a == b
  | .int k a, .int l b => decide (k = l) && a == b
  | .str a, .str b => a == b
  | _, _ => false
theorem sameAV_ok {a b : AV} (h : sameAV a b = true) : a = b := by
  cases a <;> cases b <;> simp [sameAV] at h <;> simp [h]
theorem runs_of {P : Program} {n f : Nat} {H : Heap} {v : AV} (h : ((acall P noPrims n f [] H).map fun r => sameAV r.1 v) = some true) : ∃ n H', acall P noPrims n f [] H = some (v, H') := by
  cases hr : acall P noPrims n f [] H with
  | none => rw [hr] at h; simp at h
  | some r =>
    rw [hr] at h
    obtain ⟨u, H'⟩ := r
    simp at h
    rw [sameAV_ok h] at hr
    exact ⟨n, H', hr⟩

theorem picV_one {P : Program} {H : Heap} {n t : Nat} {a : AV} {k : IntKind} (hu : P.underlying t = some (.int k)) (h : PicV P H (n + 1) t a) : ∃ z, a = .int k z ∧ (Lit.int k z).wf = true := by
  unfold PicV at h
  simp only [hu] at h
  obtain ⟨z, e, w⟩ := pic_int hu h
  simp at e
  exact ⟨z, e, w⟩
theorem picV_i64 {P : Program} {H : Heap} {n t : Nat} {a : AV} (hu : P.underlying t = some (.int .i64)) (h : PicV P H (n + 1) t a) : ∃ z, a = .int .i64 z ∧ -9223372036854775808 ≤ z ∧ z ≤ 9223372036854775807 := by
  obtain ⟨z, e, w⟩ := picV_one hu h
  exact ⟨z, e, i64_wf w⟩
theorem picV_u8 {P : Program} {H : Heap} {n t : Nat} {a : AV} (hu : P.underlying t = some (.int .u8)) (h : PicV P H (n + 1) t a) : ∃ z, a = .int .u8 z ∧ 0 ≤ z ∧ z ≤ 255 := by
  obtain ⟨z, e, w⟩ := picV_one hu h
  exact ⟨z, e, u8_wf w⟩
theorem picV_bool {P : Program} {H : Heap} {n t : Nat} {a : AV} (hu : P.underlying t = some .bool) (h : PicV P H (n + 1) t a) : ∃ z, a = .bool z := by
  unfold PicV at h
  simp only [hu] at h
  obtain ⟨z, e⟩ := pic_bool hu h
  simp at e
  exact ⟨z, e⟩
theorem picV_str {P : Program} {H : Heap} {n t : Nat} {a : AV} (hu : P.underlying t = some .string) (h : PicV P H (n + 1) t a) : ∃ z, a = .str z ∧ z.length ≤ maxLen := by
  unfold PicV at h
  simp only [hu] at h
  obtain ⟨z, e, w⟩ := pic_str hu h
  simp at e
  exact ⟨z, e, w⟩
theorem picV_slice {P : Program} {H : Heap} {n t e : Nat} {a : AV} (hu : P.underlying t = some (.slice e)) (h : PicV P H n t a) : Pic P H n t [a] := by
  unfold PicV at h
  simpa only [hu] using h
end Go.Abs
