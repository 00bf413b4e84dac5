/- Texts on the abstract machine, joined. -/
import Derived.Shelf.Strings.IndexAnyAll
import Derived.Shelf.Small.Utf8
import Derived.Scope
import Derived.Below
import Derived.Shelf.RegionOpenPlain
import Derived.Laws.RangeAny
import Derived.Lib.OthersKept
import Derived.Test.YtflbhhfdogpklaaKit04
import Derived.Lib.Bytealg

/- strings.IndexRune at a rune that is no ASCII one, in a text of two ASCII bytes; strings.IndexAny, ContainsAny of two ASCII bytes, in whatever text. -/
set_option linter.unusedVariables false
namespace Go.Proofs
open Go.Shelf Go.RowKit Go.Lib
variable {P : Program} {ρ : Ren}

set_option maxHeartbeats 8000000 in
set_option maxRecDepth 1000000 in
theorem Any.strings_IndexRune_bad (L : Lays.n152 P ρ) (s : ByteArray) (w : World) (hs : ∀ (j : Nat) b, s.data.toList[j]? = some b → b.toNat < 128) :
    Calls P (ρ.f 152) #[.string s, .int .i32 65533] w fun e w' => e = .returned (.int .i64 (-1)) ∧ ∃ pos, w' = w.iter s pos := by
  have HA : Aside (∀ (j : Nat) b, s.data.toList[j]? = some b → b.toNat < 128) := hs
  clear hs
  have t3 := L.t3; have a3 := L.a3; have z3 := L.z3; have v3 := L.v3
  have t4 := L.t4; have a4 := L.a4; have z4 := L.z4; have v4 := L.v4
  have t5 := L.t5; have a5 := L.a5; have z5 := L.z5; have v5 := L.v5
  have t9 := L.t9; have a9 := L.a9; have z9 := L.z9; have v9 := L.v9
  have t21 := L.t21; have a21 := L.a21; have z21 := L.z21; have v21 := L.v21
  go_enter L.f152, Body.n152_ntmps ρ
  go_wp2
  go_loopg [5, 6] s.size (fun g _ _ wx => ∃ i : Nat, i + g = s.size ∧ wx = w.iter s i)
  case atStart => exact ⟨0, by omega, rfl⟩
  case round =>
    obtain ⟨i, hig, rfl⟩ := hrel
    cases gk with
    | zero =>
      obtain rfl : i = s.size := by omega
      have hnx := run_next_end (P := P) w s s.size
      go_wp2
      go_ret
      exact ⟨rfl, _, rfl⟩
    | succ g =>
      have hi : i < s.size := by omega
      obtain ⟨x, hx⟩ : ∃ x : UInt8, s[i]'hi = x := ⟨_, rfl⟩
      have hxl : s.data.toList[i]? = some x := by rw [← hx]; exact Lib.data_getElem? s i hi
      have hx128 : x.toNat < 128 := HA.out i x hxl
      have hnx := fun ty => run_next_ascii (P := P) w s i ty hi (by rw [hx]; exact hx128)
      rw [hx] at hnx
      clear hxl hx
      have hne : ((x.toNat : Int) == 65533) = false := beq_eq_false_iff_ne.2 (by omega)
      go_wp2
      go_roundg g
      case measure => omega
      case rel => exact ⟨i + 1, by omega, rfl⟩

theorem encode_far (r : Int) (h0 : 128 ≤ r) (hv : Lib.validRune r = true) : 2 ≤ (Utf8.encode r).size ∧ (Utf8.encode r).size ≤ 4 ∧ ∀ h : (Utf8.encode r).size - 1 < (Utf8.encode r).size, 128 ≤ ((Utf8.encode r)[(Utf8.encode r).size - 1]'h).toNat :=
  encode_facts r (by rw [Go.validRune_eq]; exact hv) h0
set_option maxHeartbeats 8000000 in
set_option maxRecDepth 1000000 in
theorem Any.strings_IndexRune_far (L : Lays.n152 P ρ) (s : ByteArray) (r : Int) (w : World) (h2 : s.size = 2) (hs : ∀ (j : Nat) b, s.data.toList[j]? = some b → b.toNat < 128) (h0 : 128 ≤ r) (h1 : r ≤ 2147483647) :
    Calls P (ρ.f 152) #[.string s, .int .i32 r] w fun e w' => e = .returned (.int .i64 (-1)) ∧ Below w.heap.size w w' := by
  by_cases hbad : r = 65533
  · subst hbad
    exact (Any.strings_IndexRune_bad L s w hs).mono fun e w' h => ⟨h.1, by obtain ⟨pos, rfl⟩ := h.2; exact (Below.refl _ _).alloc (Nat.le_refl _) _⟩
  have t3 := L.t3; have a3 := L.a3; have z3 := L.z3; have v3 := L.v3
  have t4 := L.t4; have a4 := L.a4; have z4 := L.z4; have v4 := L.v4
  have t5 := L.t5; have a5 := L.a5; have z5 := L.z5; have v5 := L.v5
  have t9 := L.t9; have a9 := L.a9; have z9 := L.z9; have v9 := L.v9
  have t21 := L.t21; have a21 := L.a21; have z21 := L.z21; have v21 := L.v21
  have e119 : ∀ args w, (callFunc (ρ.f 119) args).run P w = .ok (.enter (ρ.f 119) args) w := enters_of L.f119 (by kernel_rfl) rfl
  have e137 : ∀ args w, (callFunc (ρ.f 137) args).run P w = .ok (.enter (ρ.f 137) args) w := enters_of L.f137 (by kernel_rfl) rfl
  have hb' : (r == 65533) = false := beq_eq_false_iff_ne.2 hbad
  cases hv : Lib.validRune r with
  | false =>
    go_enter L.f152, Body.n152_ntmps ρ
    go_wp2_with (go_at_fn (ρ.f 119); refine (Any.utf8_ValidRune { L with } _ _).mono ?_; rintro e w' ⟨rfl, hw⟩; rw [hw, hv])
    go_ret
    exact ⟨rfl, Below.refl _ _⟩
  | true =>
    have u9 := run_underlying L.t9
    have u21 := run_underlying L.t21
    obtain ⟨hsz, hsz4, hl⟩ := encode_far r h0 hv
    have mixed := L.mixed
    go_enter L.f152, Body.n152_ntmps ρ
    go_wp2_with (go_at_fn (ρ.f 119); refine (Any.utf8_ValidRune { L with } _ _).mono ?_; rintro e w' ⟨rfl, hw⟩; rw [hw, hv])
    have hcv : ∀ w, (convert (ρ.t 21) (ρ.t 9) (.int .i32 r)).run P w = .ok (.string (Utf8.encode r)) w := fun w => by
      simp [convert, u21, u9, Conv.intToString]
    refine wp_scope_straight ?_
    go_wp2
    generalize Utf8.encode r = rs at *
    go_loopg [9, 10, 11, 12] 0 (fun g s9 s10 _ _ wx => s9 = .int .i64 ((rs.size : Int) - 1) ∧ s10 = .int .i64 0 ∧ wx = w)
    case atStart => exact ⟨rfl, rfl, rfl⟩
    case round =>
      obtain ⟨rfl, rfl, rfl⟩ := hrel
      by_cases h3 : (rs.size : Int) - 1 < s.size
      · have hr2 : rs.size = 2 := by omega
        obtain ⟨x, hx⟩ : ∃ x : UInt8, rs[1]'(by omega) = x := ⟨_, rfl⟩
        obtain ⟨y, hy⟩ : ∃ y : UInt8, s[1]'(by omega) = y := ⟨_, rfl⟩
        have hy128 : y.toNat < 128 := hs 1 y (by rw [← hy]; exact Lib.data_getElem? s 1 (by omega))
        have hx128 : 128 ≤ x.toNat := by
          have := hl (by omega)
          simp only [hr2] at this
          rw [← hx]; exact this
        have hK : (rs.size : Int) - 1 = 1 := by omega
        rw [hK]
        have hxy : ((y.toNat : Int) == (x.toNat : Int)) = false := beq_eq_false_iff_ne.2 (by omega)
        clear hs hl
        go_wp2_with (go_at_fn (ρ.f 137); refine (Any.strings_IndexByte { L with } _ _ _).mono ?_; rintro e w' ⟨rfl, hw⟩; rw [hw])
        refine wp_scope_straight ?_
        go_wp2
        go_region_o
        go_wp2
        go_region_with_o (go_at_fn (ρ.f 137); refine (Any.strings_IndexByte { L with } _ _ _).mono ?_; rintro e w' ⟨rfl, hw⟩; rw [hw])
        all_goals (have hib : Lib.indexByte [] x = -1 := rfl; simp only [hib])
        all_goals go_wp2
        all_goals simp only [Exit.noGoto, Exit.inBlock, Exit.then]
        all_goals (go_wp2; go_ret; exact ⟨rfl, ((Below.refl _ _).drew).drew⟩)
      · go_wp2
        go_ret
        exact ⟨rfl, Below.refl _ _⟩
end Go.Proofs

/- strings.IndexAny of two ASCII bytes in whatever text of at most eight bytes. -/
set_option linter.unusedVariables false
namespace Go.Proofs
open Go.Shelf Go.RowKit Go.Lib
variable {P : Program} {ρ : Ren}

def ContB (s : ByteArray) (i : Nat) : Prop := i < s.size ∧ (s.get! i).toNat / 64 = 2
theorem decode_parts (s : ByteArray) (pos : Nat) : (Utf8.decode s pos).2 = 1 ∨ ((Utf8.decode s pos).2 = 2 ∧ ContB s (pos + 1)) ∨ ((Utf8.decode s pos).2 = 3 ∧ ContB s (pos + 1) ∧ ContB s (pos + 2)) ∨ ((Utf8.decode s pos).2 = 4 ∧ ContB s (pos + 1) ∧ ContB s (pos + 2) ∧ ContB s (pos + 3)) := by
  unfold ContB
  simp only [Utf8.decode]
  split
  · exact .inl rfl
  · split
    · rename_i h
      simp only [Bool.and_eq_true, decide_eq_true_eq, beq_iff_eq] at h
      split
      · exact .inr (.inl ⟨rfl, h.2⟩)
      · exact .inl rfl
    · split
      · rename_i h
        simp only [Bool.and_eq_true, decide_eq_true_eq, beq_iff_eq] at h
        split
        · exact .inr (.inr (.inl ⟨rfl, h.1.2, h.2⟩))
        · exact .inl rfl
      · split
        · rename_i h
          simp only [Bool.and_eq_true, decide_eq_true_eq, beq_iff_eq] at h
          split
          · exact .inr (.inr (.inr ⟨rfl, h.1.1.2, h.1.2, h.2⟩))
          · exact .inl rfl
        · exact .inl rfl
theorem get_in (s : ByteArray) (i : Nat) (h : i < s.size) : s.get! i = s[i]'h := by
  have := get_at s i h
  simpa using this
theorem decode_skip (s : ByteArray) (pos : Nat) (h : pos < s.size) (ha : 128 ≤ (s[pos]'h).toNat) : 1 ≤ (Utf8.decode s pos).2 ∧ pos + (Utf8.decode s pos).2 ≤ s.size ∧ ∀ (j : Nat) (hj : j < s.size), pos ≤ j → j < pos + (Utf8.decode s pos).2 → 128 ≤ (s[j]'hj).toNat := by
  have hc : ∀ i (hi : i < s.size), ContB s i → 128 ≤ (s[i]'hi).toNat := fun i hi hb => by
    have := hb.2
    rw [get_in s i hi] at this
    omega
  rcases decode_parts s pos with e | ⟨e, c1⟩ | ⟨e, c1, c2⟩ | ⟨e, c1, c2, c3⟩
  · rw [e]
    refine ⟨by omega, by omega, fun j hj h1 h2 => ?_⟩
    obtain rfl : j = pos := by omega
    exact ha
  · rw [e]
    refine ⟨by omega, by have := c1.1; omega, fun j hj h1 h2 => ?_⟩
    rcases (show j = pos ∨ j = pos + 1 by omega) with rfl | rfl
    · exact ha
    · exact hc _ hj c1
  · rw [e]
    refine ⟨by omega, by have := c2.1; omega, fun j hj h1 h2 => ?_⟩
    rcases (show j = pos ∨ j = pos + 1 ∨ j = pos + 2 by omega) with rfl | rfl | rfl
    · exact ha
    · exact hc _ hj c1
    · exact hc _ hj c2
  · rw [e]
    refine ⟨by omega, by have := c3.1; omega, fun j hj h1 h2 => ?_⟩
    rcases (show j = pos ∨ j = pos + 1 ∨ j = pos + 2 ∨ j = pos + 3 by omega) with rfl | rfl | rfl | rfl
    · exact ha
    · exact hc _ hj c1
    · exact hc _ hj c2
    · exact hc _ hj c3
theorem noAny_skip {s : ByteArray} {chars : List UInt8} {i n : Nat} (h : NoAny s.data.toList chars i) (hch : ∀ b ∈ chars, b.toNat < 128) (hi : ∀ (j : Nat) (hj : j < s.size), i ≤ j → j < i + n → 128 ≤ (s[j]'hj).toNat) : NoAny s.data.toList chars (i + n) := fun j b hj hb => by
  rcases Nat.lt_or_ge j i with h' | h'
  · exact h j b h' hb
  · have hjs : j < s.size := by
      rw [Lib.size_eq]
      rcases Nat.lt_or_ge j s.data.toList.length with h2 | h2
      · exact h2
      · rw [List.getElem?_eq_none h2] at hb; cases hb
    have h1 := hi j hjs h' hj
    have h2 := Lib.data_getElem? s j hjs
    rw [h2] at hb
    injection hb with hb
    rw [hb] at h1
    cases hcon : chars.contains b with
    | false => rfl
    | true =>
      rw [List.contains_iff_mem] at hcon
      have := hch b hcon
      omega
theorem below_iterAt_own {w wx : World} (h : Below w.heap.size w wx) (s : ByteArray) (pos : Nat) : Below w.heap.size w (wx.iterAt w.heap.size s pos) := Go.Lib.below_iterAt h (Nat.le_refl _) s pos
set_option maxHeartbeats 8000000 in
set_option maxRecDepth 1000000 in
theorem Any.strings_IndexAny_two (L : Lays.n153 P ρ) (s chars : ByteArray) (w : World) (h2 : chars.size = 2) (h8 : s.size ≤ 8) (hch : ∀ (j : Nat) b, chars.data.toList[j]? = some b → b.toNat < 128) :
    Calls P (ρ.f 153) #[.string s, .string chars] w fun e w' => e = .returned (.int .i64 (Lib.indexAny s.data.toList chars.data.toList)) ∧ Below w.heap.size w w' := by
  have HC : Aside (∀ (j : Nat) b, chars.data.toList[j]? = some b → b.toNat < 128) := hch
  clear hch
  have hemp : chars.toList.isEmpty = false := by
    rw [Lib.toList_data]
    cases h : chars.data.toList with
    | nil => have := Lib.size_eq chars; rw [h, List.length_nil] at this; omega
    | cons _ _ => rfl
  have hn1 : ((chars.size : Int) == 1) = false := beq_eq_false_iff_ne.2 (by omega)
  have h8z : decide ((8 : Int) < (s.size : Int)) = false := decide_eq_false (by omega)
  have t3 := L.t3; have a3 := L.a3; have z3 := L.z3; have v3 := L.v3
  have t4 := L.t4; have a4 := L.a4; have z4 := L.z4; have v4 := L.v4
  have t5 := L.t5; have a5 := L.a5; have z5 := L.z5; have v5 := L.v5
  have t9 := L.t9; have a9 := L.a9; have z9 := L.z9; have v9 := L.v9
  have t21 := L.t21; have a21 := L.a21; have z21 := L.z21; have v21 := L.v21
  have e152 : ∀ args w, (callFunc (ρ.f 152) args).run P w = .ok (.enter (ρ.f 152) args) w := enters_of L.f152 (by kernel_rfl) rfl
  have e226 : ∀ args w, (callFunc (ρ.f 226) args).run P w = .ok (.enter (ρ.f 226) args) w := enters_of L.f226 (by kernel_rfl) rfl
  go_enter L.f153, Body.n153_ntmps ρ
  go_wp2_with (go_at_fn (ρ.f 226); refine (Any.strings_shouldUseASCIISet { L with } _ _).mono ?_; rintro e w' ⟨rfl, hw⟩; rw [hw, h8z])
  go_loopg [9, 10] s.size (fun g _ _ wx => ∃ i : Nat, i ≤ s.size ∧ s.size - i ≤ g ∧ Below w.heap.size w wx ∧ wx.heap[w.heap.size]? = some (.stringIter s i) ∧ Lib.NoAny s.data.toList chars.data.toList i)
  case atStart => exact ⟨0, by omega, by omega, (Below.refl _ _).alloc (Nat.le_refl _) _, World.iter_heap w s 0, Lib.NoAny.zero _ _⟩
  case round =>
    obtain ⟨i, his, hig, hbel, hk, hno⟩ := hrel
    have HB : Aside (Below w.heap.size w wr) := hbel
    have HN : Aside (Lib.NoAny s.data.toList chars.data.toList i) := hno
    have HK : Aside (wr.heap[w.heap.size]? = some (.stringIter s i)) := hk
    clear hno hbel
    by_cases hi : i < s.size
    · cases gk with
      | zero => omega
      | succ g =>
        have hks : w.heap.size < wr.heap.size := (Array.getElem?_eq_some_iff.1 HK.out).1
        by_cases ha : (s[i]'hi).toNat < 128
        · obtain ⟨x, hx⟩ : ∃ x : UInt8, s[i]'hi = x := ⟨_, rfl⟩
          have hxl : s.data.toList[i]? = some x := by rw [← hx]; exact Lib.data_getElem? s i hi
          have hx128 : x.toNat < 128 := by rw [← hx]; exact ha
          have hnx := fun ty => run_next_ascii_at (P := P) wr w.heap.size s i ty hk hi ha
          rw [hx] at hnx
          have Hx : Aside (s.data.toList[i]? = some x) := hxl
          clear hxl hx ha hk
          have hcon := Lib.contains_iff_indexByte chars.data.toList x
          have hback : ((x.toNat : Int)).toNat.toUInt8 = x := by simp
          cases hin : chars.data.toList.contains x
          · rw [hin] at hcon
            have hlt : ¬ ((0 : Int) ≤ Lib.indexByte chars.data.toList x) := of_decide_eq_false hcon.symm
            clear hcon
            go_wp2_with (go_at_fn (ρ.f 152); refine (Any.strings_IndexRune_ascii { L with } _ _ _ (by omega) (by omega)).mono ?_; rintro e w' ⟨rfl, hw⟩; rw [hw, hback])
            go_roundg g
            case measure => omega
            case rel => exact ⟨i + 1, by omega, by omega, below_iterAt_own HB.out s _, Go.Lib.iterAt_heap _ _ _ _ _ HK.out, HN.out.succ Hx.out hin⟩
          · rw [hin] at hcon
            have hge : (0 : Int) ≤ Lib.indexByte chars.data.toList x := of_decide_eq_true hcon.symm
            clear hcon
            go_wp2_with (go_at_fn (ρ.f 152); refine (Any.strings_IndexRune_ascii { L with } _ _ _ (by omega) (by omega)).mono ?_; rintro e w' ⟨rfl, hw⟩; rw [hw, hback])
            go_ret
            exact ⟨by rw [Lib.indexAny_hit HN.out Hx.out hin]; rfl, below_iterAt_own HB.out s _⟩
        · have hnx := fun ty => run_next_any_at (P := P) wr w.heap.size s i ty hk hi
          obtain ⟨hn1', hn2', hsk⟩ := decode_skip s i hi (by omega)
          have hhi := decode_high s i hi (by omega)
          have hle := decode_le s i
          have HS := noAny_skip (n := (Utf8.decode s i).2) HN.out (fun b hb => by
            obtain ⟨j, hj⟩ := List.mem_iff_getElem?.1 hb
            exact HC.out j b hj) hsk
          have HSA : Aside (Lib.NoAny s.data.toList chars.data.toList (i + (Utf8.decode s i).2)) := HS
          clear HS hsk hk
          generalize (Utf8.decode s i).1 = c at *
          generalize (Utf8.decode s i).2 = n at *
          have hb1 := below_iterAt_own HB.out s (i + n)
          have HB1 : Aside (Below w.heap.size w (wr.iterAt w.heap.size s (i + n))) := hb1
          have HK1 : Aside ((wr.iterAt w.heap.size s (i + n)).heap[w.heap.size]? = some (.stringIter s (i + n))) := Go.Lib.iterAt_heap _ _ _ _ _ HK.out
          have HZ : Aside (w.heap.size < (wr.iterAt w.heap.size s (i + n)).heap.size) := by rw [Go.Lib.iterAt_size]; exact hks
          clear hb1
          go_wp2_with (go_at_fn (ρ.f 152); refine (Any.strings_IndexRune_far { L with } _ _ _ h2 HC.out (by omega) (by omega)).mono ?_; rintro e w' ⟨rfl, hbw⟩)
          go_roundg g
          case measure => omega
          case rel => exact ⟨i + n, by omega, by omega, HB1.out.trans (hbw.mono (Nat.le_of_lt HZ.out)), (hbw.block _ HZ.out).trans HK1.out, HSA.out⟩
    · obtain rfl : i = s.size := by omega
      have hnx := fun ty => run_next_end_at (P := P) wr w.heap.size s s.size ty hk hi
      go_wp2
      go_ret
      exact ⟨by rw [Lib.indexAny_none (by rw [← Lib.size_eq]; exact HN.out)]; rfl, HB.out⟩
/-- strings.ContainsAny of two ASCII bytes, in whatever text. -/
theorem Any.strings_IndexAny_whole (L : Lays.n153 P ρ) (hz : (P.info? (ρ.t 116)).map (fun i => (i.zero, i.size)) = some (some (.agg (Array.replicate 256 (.bool false))), 256)) (s chars : ByteArray) (w : World) (h2 : chars.size = 2) (hs : s.size < 4294967281) (hch : ∀ (j : Nat) b, chars.data.toList[j]? = some b → b.toNat < 128) :
    Calls P (ρ.f 153) #[.string s, .string chars] w fun e w' => e = .returned (.int .i64 (Lib.indexAny s.data.toList chars.data.toList)) ∧ Below w.heap.size w w' := by
  by_cases h8 : s.size ≤ 8
  · exact Any.strings_IndexAny_two L s chars w h2 h8 hch
  · refine (Any.strings_IndexAny_long L (zero_of_info hz).1 (zero_of_info hz).2 s chars w (by omega) (by omega) hs (by omega) hch).mono fun e w' ⟨h1, h2⟩ => ⟨h1, ?_⟩
    rw [h2]
    exact ((Below.refl _ _).alloc (Nat.le_refl _) _).alloc (by simp) _
set_option maxHeartbeats 1000000 in
theorem Any.strings_ContainsAny_whole (L : Lays.n150 P ρ) (hz : (P.info? (ρ.t 116)).map (fun i => (i.zero, i.size)) = some (some (.agg (Array.replicate 256 (.bool false))), 256)) (s chars : ByteArray) (w : World) (h2 : chars.size = 2) (hs : s.size < 4294967281) (hch : ∀ (j : Nat) b, chars.data.toList[j]? = some b → b.toNat < 128) :
    Calls P (ρ.f 150) #[.string s, .string chars] w fun e w' => e = .returned (.bool (Lib.containsAny s.data.toList chars.data.toList)) ∧ Below w.heap.size w w' := by
  have c := Any.strings_IndexAny_whole { L with } hz s chars w h2 hs hch
  clear hch
  have t3 := L.t3; have a3 := L.a3; have z3 := L.z3; have v3 := L.v3
  have t4 := L.t4; have a4 := L.a4; have z4 := L.z4; have v4 := L.v4
  have t9 := L.t9; have a9 := L.a9; have z9 := L.z9; have v9 := L.v9
  have e153 : ∀ args w, (callFunc (ρ.f 153) args).run P w = .ok (.enter (ρ.f 153) args) w := enters_of L.f153 (by kernel_rfl) rfl
  go_enter L.f150, Body.n150_ntmps ρ
  go_wp2_with (go_at_fn (ρ.f 153); refine c.mono ?_; rintro e w' ⟨rfl, hw⟩)
  go_ret
  exact ⟨rfl, hw⟩
end Go.Proofs

/- Stand-ins of internal/bytealg, for the abstract machine. -/
namespace Go.Abs
set_option linter.unusedVariables false

def cmpAV : List AV → Option AV
  | [.str a, .str b] => some (.int .i64 (Lib.compareBytes a b))
  | _ => none
def ibAV : List AV → Option AV
  | [.str s, .int .u8 c] => some (.int .i64 (Lib.indexByte s c.toNat.toUInt8))
  | _ => none
def countAV : List AV → Option AV
  | [.str s, .int .u8 c] => some (.int .i64 (Lib.countByte s c.toNat.toUInt8))
  | _ => none
theorem vrels_two {ρ : Map} {x y : AV} {us : Array Value} (h : VRels ρ [x, y] us.toList) : ∃ u v, us = #[u, v] ∧ VRel ρ x u ∧ VRel ρ y v := by
  obtain ⟨u, r, h1, hu, h2⟩ := h
  obtain ⟨v, s, h3, hv, h4⟩ := h2
  have hs : s = [] := h4
  subst hs
  subst h3
  refine ⟨u, v, ?_, hu, hv⟩
  obtain ⟨l⟩ := us
  simp only at h1
  subst h1
  rfl
section
variable {P : Program} {f : FuncId} {fn : Func}
theorem says_cmp (h1 : P.funcs[f]? = some fn) (h2 : (fn.name == "runtime.NumGoroutine") = false) (h3 : fn.body.isNone = true) (h4 : Extern.findNext fn = none) (h5 : Extern.find fn = some Extern.BytealgCompare.compare) : ExtSays P f cmpAV := by
  refine ⟨fn, _, h1, h2, h3, h4, h5, fun args v hg ρ us w hr => ?_⟩
  unfold cmpAV at hg
  split at hg
  · rename_i a b
    injection hg with hg; subst hg
    obtain ⟨u, x, rfl, hu, hx⟩ := vrels_two hr
    cases hu; cases hx
    exact ⟨_, Lib.run_compareString _ _ w, rfl⟩
  · cases hg
theorem says_ib (h1 : P.funcs[f]? = some fn) (h2 : (fn.name == "runtime.NumGoroutine") = false) (h3 : fn.body.isNone = true) (h4 : Extern.findNext fn = none) (h5 : Extern.find fn = some Extern.BytealgIndexByte.indexByte) : ExtSays P f ibAV := by
  refine ⟨fn, _, h1, h2, h3, h4, h5, fun args v hg ρ us w hr => ?_⟩
  unfold ibAV at hg
  split at hg
  · rename_i a b
    injection hg with hg; subst hg
    obtain ⟨u, x, rfl, hu, hx⟩ := vrels_two hr
    cases hu; cases hx
    exact ⟨_, Lib.run_indexByteString _ _ w, rfl⟩
  · cases hg
theorem says_count (h1 : P.funcs[f]? = some fn) (h2 : (fn.name == "runtime.NumGoroutine") = false) (h3 : fn.body.isNone = true) (h4 : Extern.findNext fn = none) (h5 : Extern.find fn = some Extern.BytealgCount.count) : ExtSays P f countAV := by
  refine ⟨fn, _, h1, h2, h3, h4, h5, fun args v hg ρ us w hr => ?_⟩
  unfold countAV at hg
  split at hg
  · rename_i a b
    injection hg with hg; subst hg
    obtain ⟨u, x, rfl, hu, hx⟩ := vrels_two hr
    cases hu; cases hx
    exact ⟨_, Lib.run_countString _ _ w, rfl⟩
  · cases hg
end
end Go.Abs

/- strings.ContainsAny(s, "/\x00"), told to the abstract machine. -/
namespace Go.Abs
open Go.Proofs Go.Shelf Go.RowKit
set_option linter.unusedVariables false

theorem KeptW.of {w w' : World} (h : Below w.heap.size w w') : KeptW w w' :=
  ⟨h.size, fun B o hB => (h.block B (Array.getElem?_eq_some_iff.1 hB).1).trans hB, h.tape, h.os, h.output⟩
def containsAV : List AV → Option AV
  | [.str s, .str c] => if c = [47, 0] ∧ s.length < 4294967281 then some (.bool (Lib.containsAny s c)) else none
  | _ => none
theorem says_contains {P : Program} {ρ : Ren} (L : Lays.n150 P ρ) (hz : (P.info? (ρ.t 116)).map (fun i => (i.zero, i.size)) = some (some (.agg (Array.replicate 256 (.bool false))), 256)) {f : FuncId} {fn : Func} (hf : ρ.f 150 = f) (h1 : P.funcs[f]? = some fn) (h2 : (fn.name == "runtime.NumGoroutine") = false) (h3 : fn.body.isNone = false) : BodySays P f containsAV := by
  subst hf
  refine ⟨fn, h1, h2, h3, fun args v hg ρ' us w hr => ?_⟩
  unfold containsAV at hg
  split at hg
  · rename_i s c
    split at hg
    · rename_i hc
      injection hg with hg; subst hg
      obtain ⟨u, x, rfl, hu, hx⟩ := vrels_two hr
      cases hu; cases hx
      obtain ⟨rfl, hs⟩ := hc
      refine (Any.strings_ContainsAny_whole L hz ⟨s.toArray⟩ ⟨[47, 0].toArray⟩ w rfl hs (fun j b hb => ?_)).mono fun e w' ⟨he, hb⟩ => ⟨_, he, rfl, .of hb⟩
      have : b ∈ ([47, 0] : List UInt8) := List.mem_of_getElem? hb
      simp at this
      rcases this with rfl | rfl <;> decide
    · cases hg
  · cases hg
end Go.Abs
