/- Texts on this program, joined. -/
import Derived.Test.YtneaadcnpebfeaaDoorOwn13
import Derived.Test.YtneaadcnpebfeaaDoorKit14

/- Chapter 01: RightsNames, walked. -/
namespace Go.Abs
open Go.Proofs
set_option maxRecDepth 100000
set_option linter.unusedVariables false
set_option linter.unusedSimpArgs false

theorem space_of {H : Heap} (hL : Lain S01 H) : spaceAt 0 H = true := by
  have := (hL (0, .cells spaceC 5 false false) (by simp [S01])).1
  unfold spaceAt
  rw [this]
  exact AV.beqs_refl _
theorem fields_ok {H : Heap} (hL : Lain S01 H) {s : Txt} (h1 : s.length < 4294967281) (h2 : s.all (fun b => decide (b.toNat < 128)) = true) : Cl Tryd.prog pr01 43 [.str s] H fun r H' => Keep H H' ∧ Ss H' r (Lib.fields s) := by
  refine Cl.prim (g := fieldsP 0 9) rfl (v := .slice (some (H.next, 0)) (Lib.fields s).length (Lib.fields s).length none) (H' := H.push (.cells ((Lib.fields s).map .str) 9 true false)) ?_ ?_
  · exact if_pos ⟨h1, h2, space_of hL⟩
  · exact ⟨Upd.rfl.push _, Ss.pushed rfl (.inl rfl) rfl⟩
def NM : List Txt := [[114, 101, 97, 100], [119, 114, 105, 116, 101], [115, 101, 101, 107], [116, 101, 108, 108], [99, 114, 101, 97, 116, 101], [102, 115, 121, 110, 99], [116, 114, 117, 110, 99, 97, 116, 101], [108, 111, 111, 107, 117, 112], [99, 104, 100, 105, 114], [102, 99, 110, 116, 108], [115, 116, 97, 116], [114, 101, 97, 100, 100, 105, 114], [108, 105, 110, 107, 102, 114, 111, 109], [108, 105, 110, 107, 116, 111], [109, 107, 100, 105, 114], [114, 101, 110, 97, 109, 101, 102, 114, 111, 109], [114, 101, 110, 97, 109, 101, 116, 111], [115, 121, 109, 108, 105, 110, 107], [114, 101, 97, 100, 108, 105, 110, 107], [117, 110, 108, 105, 110, 107], [97, 99, 99, 101, 112, 116], [98, 105, 110, 100], [99, 111, 110, 110, 101, 99, 116], [108, 105, 115, 116, 101, 110], [115, 104, 117, 116, 100, 111, 119, 110], [98, 105, 110, 100, 97, 116], [99, 111, 110, 110, 101, 99, 116, 97, 116], [101, 118, 101, 110, 116], [105, 111, 99, 116, 108], [112, 100, 103, 101, 116, 112, 105, 100], [112, 100, 119, 97, 105, 116], [112, 100, 107, 105, 108, 108]]
def NT : Txt := [114, 101, 97, 100, 32, 119, 114, 105, 116, 101, 32, 115, 101, 101, 107, 32, 116, 101, 108, 108, 32, 99, 114, 101, 97, 116, 101, 32, 102, 115, 121, 110, 99, 32, 116, 114, 117, 110, 99, 97, 116, 101, 32, 108, 111, 111, 107, 117, 112, 32, 99, 104, 100, 105, 114, 32, 102, 99, 110, 116, 108, 32, 115, 116, 97, 116, 32, 114, 101, 97, 100, 100, 105, 114, 32, 108, 105, 110, 107, 102, 114, 111, 109, 32, 108, 105, 110, 107, 116, 111, 32, 109, 107, 100, 105, 114, 32, 114, 101, 110, 97, 109, 101, 102, 114, 111, 109, 32, 114, 101, 110, 97, 109, 101, 116, 111, 32, 115, 121, 109, 108, 105, 110, 107, 32, 114, 101, 97, 100, 108, 105, 110, 107, 32, 117, 110, 108, 105, 110, 107, 32, 97, 99, 99, 101, 112, 116, 32, 98, 105, 110, 100, 32, 99, 111, 110, 110, 101, 99, 116, 32, 108, 105, 115, 116, 101, 110, 32, 115, 104, 117, 116, 100, 111, 119, 110, 32, 98, 105, 110, 100, 97, 116, 32, 99, 111, 110, 110, 101, 99, 116, 97, 116, 32, 101, 118, 101, 110, 116, 32, 105, 111, 99, 116, 108, 32, 112, 100, 103, 101, 116, 112, 105, 100, 32, 112, 100, 119, 97, 105, 116, 32, 112, 100, 107, 105, 108, 108]
theorem nm_len : NM.length = 32 := rfl
theorem nt_len : NT.length < 4294967281 := of_decide_eq_true (by kernel_rfl)
theorem nt_low : NT.all (fun b => decide (b.toNat < 128)) = true := by kernel_rfl
theorem nt_split : Lib.fields NT = NM := by
  have : (Lib.fields NT == NM) = true := by kernel_rfl
  exact beq_iff_eq.1 this
theorem all_ok {H : Heap} (hL : Lain S01 H) : Cl Tryd.prog pr01 38 [] H fun r H' => Keep H H' ∧ Ss H' r NM := by
  have e := nt_split
  refine Cl.enter Tryd.func38 rfl rfl Tryd.ntmps38 (by simp) ?_
  refine walk none0 ?_
  refine (fields_ok (s := NT) hL nt_len nt_low).mono fun v H1 _ ⟨kA, h⟩ => ?_
  rw [e] at h
  refine walk none0 ?_
  exact ⟨kA, h⟩
theorem refNames_ok (H : Heap) : Cl Tryd.prog pr01 27 [] H fun r H' => Keep H H' ∧ Ss H' r NM := by
  refine Cl.enter Tryd.func27 rfl rfl Tryd.ntmps27 (by simp) ?_
  refine walk none0 ?_
  exact ⟨Upd.rfl.push _, Ss.pushed (l := NM) rfl (.inl rfl) rfl⟩
theorem idx_ok {H : Heap} {v : AV} {l : List Txt} {s : Txt} (h : Ss H v l) (hL : l.length ≤ 100000) : Cl Tryd.prog pr01 42 [v, .str s] H fun w H' => H' = H ∧ ((w = .int .i64 (-1) ∧ s ∉ l) ∨ ∃ i : Nat, w = .int .i64 i ∧ l[i]? = some s ∧ ∀ (k : Nat) (y : Txt), k < i → l[k]? = some y → y ≠ s) := by
  obtain ⟨a, cap, ex, rfl, hc, hex⟩ := h.form
  refine Cl.enter Tryd.func42 rfl rfl Tryd.ntmps42 (by simp) ?_
  refine walk none0 ?_
  refine Wq.loop (fun k e H' => ∃ i : Nat, i ≤ l.length ∧ k = l.length - i ∧ H' = H ∧ e 0 = .slice a l.length cap ex ∧ e 1 = .str s ∧ e 7 = .int .i64 l.length ∧ e 8 = .int .i64 i ∧ ∀ (k : Nat) (y : Txt), k < i → l[k]? = some y → y ≠ s) l.length ?_ ?_
  · exact ⟨0, by omega, by omega, rfl, by simp, by simp, by simp, by simp, fun k y hk => by omega⟩
  · rintro k e H' ⟨i, hi, rfl, rfl, g0, g1, g7, g8, hlo⟩
    by_cases hlt : i < l.length
    · obtain ⟨x, hx⟩ := get_lt' hlt
      obtain ⟨b, o, c, t, w, mk, rfl, _, hb1, hb2, hb3, hb4⟩ := str_at h hx
      by_cases hp : s = x
      · subst hp
        refine walk (both g0 (both g1 (both g7 (both g8 (both hlt (both hb2 (both hb3 hb4))))))) ?_
        exact ⟨rfl, .inr ⟨i, rfl, hx, hlo⟩⟩
      · refine walk (both g0 (both g1 (both g7 (both g8 (both hlt (both hb2 (both hb3 (both hb4 hp)))))))) ?_
        refine Roundq.normal (l.length - (i + 1)) (by omega) ⟨i + 1, by omega, rfl, rfl, by simp [g0], by simp [g1], by simp [g7], by simp, fun k y hk hy => ?_⟩
        rcases Nat.lt_or_ge k i with h' | h'
        · exact hlo k y h' hy
        · obtain rfl : k = i := by omega
          rw [hx] at hy; cases hy; exact fun e => hp e.symm
    · refine walk (both g0 (both g1 (both g7 (both g8 hlt)))) ?_
      refine ⟨rfl, .inl ⟨rfl, fun hm => ?_⟩⟩
      obtain ⟨k, hk⟩ := List.mem_iff_getElem?.1 hm
      exact hlo k s (by have := (List.getElem?_eq_some_iff.1 hk).1; omega) hk rfl
/-- What a name is: its bit, and whether it is one. -/
def nameP (s : Txt) (n : Nat) (ok : Bool) : Prop := (n = 0 ∧ ok = false ∧ s ∉ NM) ∨ ∃ i : Nat, i < 32 ∧ n = 2 ^ i ∧ ok = true ∧ NM[i]? = some s ∧ ∀ (k : Nat) (y : Txt), k < i → NM[k]? = some y → y ≠ s
theorem nameP_one {s : Txt} {n m : Nat} {a b : Bool} (h : nameP s n a) (g : nameP s m b) : n = m ∧ a = b := by
  rcases h with ⟨rfl, rfl, h⟩ | ⟨i, hi, rfl, rfl, h, h'⟩ <;> rcases g with ⟨rfl, rfl, g⟩ | ⟨j, hj, rfl, rfl, g, g'⟩
  · exact ⟨rfl, rfl⟩
  · exact absurd (List.mem_of_getElem? g) h
  · exact absurd (List.mem_of_getElem? h) g
  · rcases Nat.lt_trichotomy i j with c | rfl | c
    · exact absurd rfl (g' i s c h)
    · exact ⟨rfl, rfl⟩
    · exact absurd rfl (h' j s c g)
theorem shl_one {i : Nat} (hi : i < 32) : IntKind.u32.wrap (2 ^ min i IntKind.u32.bits) = ((2 ^ i : Nat) : Int) := by
  have : min i IntKind.u32.bits = i := Nat.min_eq_left (by simp [IntKind.bits]; omega)
  rw [this]
  have h : 2 ^ i < 2 ^ 32 := Nat.pow_lt_pow_right (by omega) hi
  have e : (2 : Int) ^ i = ((2 ^ i : Nat) : Int) := by simp
  rw [e]
  generalize 2 ^ i = n at *
  simp [IntKind.wrap, IntKind.signed, IntKind.bits]
  omega
theorem bit_ok {H : Heap} (hL : Lain S01 H) (s : Txt) : Cl Tryd.prog pr01 35 [.str s] H fun r H' => Keep H H' ∧ ∃ (n : Nat) (ok : Bool), r = .tuple [.int .u32 n, .bool ok] ∧ nameP s n ok := by
  refine Cl.enter Tryd.func35 rfl rfl Tryd.ntmps35 (by simp) ?_
  refine walk none0 ?_
  refine (all_ok hL).mono fun v H1 _ ⟨kA, h⟩ => ?_
  refine walk none0 ?_
  refine (idx_ok h (by simp [nm_len])).mono fun w H2 _ ⟨e0, hw⟩ => ?_
  subst e0
  rcases hw with ⟨rfl, hw⟩ | ⟨i, rfl, hi, hlo⟩
  · refine walk none0 ?_
    exact ⟨kA, 0, false, rfl, .inl ⟨rfl, rfl, hw⟩⟩
  · have hi' : i < 32 := (List.getElem?_eq_some_iff.1 hi).1
    have hw := shl_one hi'
    refine walk none0 ?_
    exact ⟨kA, 2 ^ i, true, by rw [hw], .inr ⟨i, hi', rfl, rfl, hi, hlo⟩⟩
theorem Bit_ok {H : Heap} (hL : Lain S01 H) (s : Txt) : Cl Tryd.prog pr01 25 [.str s] H fun r H' => Keep H H' ∧ ∃ (n : Nat) (ok : Bool), r = .tuple [.int .u32 n, .bool ok] ∧ nameP s n ok := by
  refine Cl.enter Tryd.func25 rfl rfl Tryd.ntmps25 (by simp) ?_
  refine walk none0 ?_
  refine (bit_ok hL s).mono fun v H1 _ ⟨kA, n, ok, e, h⟩ => ?_
  subst e
  refine walk none0 ?_
  exact ⟨kA, n, ok, rfl, h⟩
/-- The name of a number. -/
def nameOf (i : Int) : Option Txt := if 0 ≤ i ∧ i < 32 then NM[i.toNat]? else none
theorem Name_ok {H : Heap} (hL : Lain S01 H) (i : Int) : Cl Tryd.prog pr01 24 [.int .i64 i] H fun r H' => Keep H H' ∧ r = .tuple [.str ((nameOf i).getD []), .bool (decide (0 ≤ i ∧ i < 32))] := by
  by_cases h0 : 0 ≤ i ∧ i < 32
  · obtain ⟨n, rfl⟩ : ∃ n : Nat, i = n := ⟨i.toNat, by omega⟩
    have hn : n < 32 := by omega
    obtain ⟨x, hx⟩ := get_lt' (l := NM) (i := n) (by rw [nm_len]; exact hn)
    have en : nameOf n = some x := by rw [nameOf, if_pos h0, Int.toNat_natCast, hx]
    rw [en, decide_eq_true h0]
    refine Cl.enter Tryd.func24 rfl rfl Tryd.ntmps24 (by simp) ?_
    refine walk hn ?_
    refine (all_ok hL).mono fun v H1 _ ⟨kA, h⟩ => ?_
    obtain ⟨a, cap, ex, rfl, hc, hex⟩ := h.form
    obtain ⟨b, o, c, t, w, mk, rfl, _, hb1, hb2, hb3, hb4⟩ := str_at h hx
    refine walk (both hn (both hb2 (both hb3 (both hb4 nm_len)))) ?_
    exact ⟨kA, rfl⟩
  · have en : nameOf i = none := by rw [nameOf, if_neg h0]
    rw [en, decide_eq_false h0]
    refine Cl.enter Tryd.func24 rfl rfl Tryd.ntmps24 (by simp) ?_
    by_cases h1 : i < 0
    · refine walk h1 ?_
      exact ⟨Upd.rfl, rfl⟩
    · have h2 : 32 ≤ i := by omega
      refine walk (both h1 h2) ?_
      exact ⟨Upd.rfl, rfl⟩
theorem zeros_bools : ∀ n, zeros [.bool false] n = bools (List.replicate n false)
  | 0 => rfl
  | n + 1 => by rw [List.replicate_succ]; simp only [zeros, bools, List.map_cons, List.cons_append, List.nil_append]; rw [zeros_bools n]; rfl
theorem make32 : ∃ c, c = bools (List.replicate 32 false) ∧ ∀ H, makeSliceR Tryd.prog 53 (some (.int .i64 32)) (some (.int .i64 32)) H = some (.slice (some (H.next, 0)) 32 32 none, H.push (.cells c 4 true false)) := by
  refine ⟨_, rfl, fun H => ?_⟩
  have h : elemF Tryd.prog 53 = some (4, 1, 1, [.bool false]) := by kernel_rfl
  rw [makeSliceR_eq h (by omega)]
  rw [← zeros_bools]
  rfl
theorem bools_set (l : List Bool) (i : Nat) (b : Bool) : (bools l).set i (.bool b) = bools (l.set i b) := by unfold bools; rw [List.map_set]
theorem of_one {i : Nat} (hi : i < 32) : ofL ((List.replicate 32 false).set i true) = 2 ^ i := by
  apply Nat.eq_of_testBit_eq
  intro k
  rw [ofL_bit, Nat.testBit_two_pow, List.getD_eq_getElem?_getD, List.getElem?_set]
  by_cases h : i = k
  · subst h; simp [hi]
  · rw [if_neg h, List.getElem?_replicate]
    split <;> simp [h]
theorem refBit_ok (H : Heap) (s : Txt) : Cl Tryd.prog pr01 26 [.str s] H fun r H' => Keep H H' ∧ ∃ (n : Nat) (ok : Bool), r = .tuple [.int .u32 n, .bool ok] ∧ nameP s n ok := by
  obtain ⟨c0, hc0, hmk⟩ := make32
  refine Cl.enter Tryd.func26 rfl rfl Tryd.ntmps26 (by simp) ?_
  refine walk none0 ?_
  refine Wq.regionD [0, 1, 2, 3] (by kernel_rfl) ?_
  refine walk none0 ?_
  refine (refNames_ok H).mono fun v H1 _ ⟨kA, h⟩ => ?_
  obtain ⟨a, cap, ex, rfl, hc, hex⟩ := h.form
  have hm1 := hmk H1
  have kB : Keep H1 (H1.push (.cells c0 4 true false)) := Upd.rfl.push _
  refine walk hm1 ?_
  have h2 := h.kept kB
  have hbk : (H1.push (.cells c0 4 true false)).get H1.next = some (.cells c0 4 true false) := by simp
  have hnx : (H1.push (.cells c0 4 true false)).next = H1.next + 1 := by simp
  have hcl : c0.length = 32 := by rw [hc0]; simp [bools]
  generalize H1.push (.cells c0 4 true false) = H2 at *
  obtain ⟨L, hLL⟩ : ∃ L, L = NM.length := ⟨_, rfl⟩
  have hL32 : L = 32 := by rw [hLL, nm_len]
  rw [← hLL]
  refine Wq.loop (fun m e H' => ∃ i : Nat, i ≤ 32 ∧ m = 32 - i ∧ H' = H2 ∧ e 0 = .str s ∧ e 4 = .slice a L cap ex ∧ e 5 = .slice (some (H1.next, 0)) 32 32 none ∧ e 6 = .int .i64 i ∧ ∀ (k : Nat) (y : Txt), k < i → NM[k]? = some y → y ≠ s) 32 ?_ ?_
  · exact ⟨0, by omega, by omega, rfl, by simp, by simp, by simp, by simp, fun k y hk => by omega⟩
  · rintro k e H' ⟨i, hi, rfl, rfl, g0, g4, g5, g6, hlo⟩
    by_cases hlt : i < 32
    · obtain ⟨x, hx⟩ := get_lt' (l := NM) (i := i) (by rw [nm_len]; exact hlt)
      obtain ⟨b, o, c, t, w, mk, rfl, _, hb1, hb2, hb3, hb4⟩ := str_at h2 hx
      have hiL : i < L := by omega
      by_cases hp : x = s
      · subst hp
        refine walk (both g0 (both g4 (both g5 (both g6 (both hlt (both hiL (both hb2 (both hb3 (both hb4 (both hbk hcl)))))))))) ?_
        have hi' : i < 32 := hlt
        rw [hc0, bools_set]
        have hll : ((List.replicate 32 false).set i true).length = 32 := by simp
        have hofo := of_one hi'
        generalize (List.replicate 32 false).set i true = lo at *
        have hbl : (bools lo).length = 32 := by simp [bools, hll]
        have hsl : Sl (H'.set H1.next (.cells (bools lo) 4 true false)) 1 (.slice (some (H1.next, 0)) 32 32 none) lo.length (bools lo) := by
          unfold Sl
          rw [hll]
          refine ⟨by omega, .inr ⟨H1.next, 0, 32, none, rfl, Nat.le_refl _, .inl rfl, fun _ => ⟨by simp; omega, bools lo, 4, true, false, by simp, by omega, ?_⟩⟩⟩
          rw [List.drop_zero, List.take_of_length_le (by omega)]
        have hn1 := kA.next
        refine (of_ok hsl hll).mono fun v H3 _ ⟨e1, e2⟩ => ?_
        subst e1; subst e2
        refine walk g0 ?_
        exact ⟨(kA.then kB).set _ (by omega) (by omega), 2 ^ i, true, by rw [hofo], .inr ⟨i, hi', rfl, rfl, hx, hlo⟩⟩
      · refine walk (both g0 (both g4 (both g5 (both g6 (both hlt (both hiL (both hb2 (both hb3 (both hb4 hp))))))))) ?_
        refine Roundq.normal (32 - (i + 1)) (by omega) ⟨i + 1, by omega, rfl, rfl, by simp [g0], by simp [g4], by simp [g5], by simp, fun k y hk hy => ?_⟩
        rcases Nat.lt_or_ge k i with h' | h'
        · exact hlo k y h' hy
        · obtain rfl : k = i := by omega
          rw [hx] at hy; cases hy; exact hp
    · obtain rfl : i = 32 := by omega
      refine walk (both g0 (both g4 (both g5 g6))) ?_
      refine ⟨kA.then kB, 0, false, rfl, .inl ⟨rfl, rfl, fun hm => ?_⟩⟩
      obtain ⟨k, hk⟩ := List.mem_iff_getElem?.1 hm
      exact hlo k s (by have := (List.getElem?_eq_some_iff.1 hk).1; rw [nm_len] at this; omega) hk rfl
theorem names_at {s : Txt} {i : Nat} (h : i < 32) : ∃ x, NM[i]? = some x := get_lt' (by rw [nm_len]; exact h)
theorem rightsNames_main (i : Int) (s : Txt) {H : Heap} (hL : Lain S01 H) : Cl Tryd.prog pr01 8 [.int .i64 i, .str s] H fun v _ => v = .bool true := by
  refine Cl.enter Tryd.func8 rfl rfl Tryd.ntmps8 (by simp) ?_
  refine walk none0 ?_
  refine (Name_ok hL i).mono fun v H1 _ ⟨kA, e1⟩ => ?_
  subst e1
  have hL1 := lain_kept hL kA
  generalize hok : decide (0 ≤ i ∧ i < 32) = ok at *
  generalize hn : (nameOf i).getD [] = n at *
  refine walk none0 ?_
  refine (Bit_ok hL1 s).mono fun v H2 _ ⟨kB, b, is, e1, hb⟩ => ?_
  subst e1
  have hL2 := lain_kept hL1 kB
  refine walk none0 ?_
  refine (refBit_ok H2 s).mono fun v H3 _ ⟨kC, c, has, e1, hc⟩ => ?_
  subst e1
  have hL3 := lain_kept hL2 kC
  obtain ⟨rfl, rfl⟩ := nameP_one hb hc
  refine walk none0 ?_
  by_cases h0 : 0 ≤ i ∧ i < 32
  · obtain ⟨k, rfl⟩ : ∃ k : Nat, i = k := ⟨i.toNat, by omega⟩
    have hk : k < 32 := by omega
    rw [decide_eq_true h0] at hok
    subst hok
    obtain ⟨x, hx⟩ := get_lt' (l := NM) (i := k) (by rw [nm_len]; exact hk)
    have en : n = x := by rw [← hn, nameOf, if_pos h0, Int.toNat_natCast, hx]; rfl
    subst en
    refine walk hk ?_
    refine (refNames_ok H3).mono fun v H4 _ ⟨kD, h⟩ => ?_
    have hL4 := lain_kept hL3 kD
    obtain ⟨L, hLL⟩ : ∃ L, L = NM.length := ⟨_, rfl⟩
    have hL32 : L = 32 := by rw [hLL, nm_len]
    have hkL : k < L := by omega
    obtain ⟨a, cap, ex, rfl, hcp, hex⟩ := h.form
    obtain ⟨b, o, c, t, w, mk, rfl, _, hb1, hb2, hb3, hb4⟩ := str_at h hx
    rw [← hLL]
    refine walk (both hk (both hkL (both hb2 (both hb3 hb4)))) ?_
    refine (lives_ok hL4).mono fun v H5 _ ⟨e1, e2⟩ => ?_
    subst e1; subst e2
    refine walk none0 ?_
    rfl
  · rw [decide_eq_false h0] at hok
    subst hok
    have en : n = [] := by rw [← hn, nameOf, if_neg h0]; rfl
    subst en
    by_cases h1 : i < 0
    · refine walk h1 ?_
      refine (lives_ok hL3).mono fun v H5 _ ⟨e1, e2⟩ => ?_
      subst e1; subst e2
      refine walk none0 ?_
      rfl
    · have h2 : 31 < i := by omega
      refine walk (both h1 h2) ?_
      refine (lives_ok hL3).mono fun v H5 _ ⟨e1, e2⟩ => ?_
      subst e1; subst e2
      refine walk none0 ?_
      rfl
end Go.Abs

/- RightsNames: the row and its card. -/
namespace Go.Proofs.YtneaadcnpebfeaaDoor
open Go.ChangeShapes Go.WideShapes Go.ChangeAt Go.RowKit Go.Abs
set_option linter.unusedVariables false
set_option maxRecDepth 100000

theorem rightsNamesMain (H : Heap) (xs : List AV) (hG : Tryd.prog.globals.size ≤ H.next) (hw : Wf H) (hL : Lain S01 H) (h : PicAll Tryd.prog H 2 [3, 9] xs) : CallsA Tryd.prog pr01 8 xs H fun v _ => v = .bool true := by
  obtain ⟨a0, r0, rfl, h0, a1, r1, rfl, h1, hend⟩ := h
  obtain rfl : r1 = [] := hend
  refine Cl.callsA primsRl hw ?_
  obtain ⟨i, rfl, _⟩ := picV_i64 Tryd.underlying3 h0
  obtain ⟨s, rfl, _⟩ := picV_str Tryd.underlying9 h1
  exact rightsNames_main i s hL

theorem rightsNamesLifted (os : Os) (started : os.Started) (H : Type) (enc : TypeId × Value → H) :
    ReturnsInHanded {} Tryd.checked os 8 .any (fun w args => (Rows.rightsNamesSpec.pre enc Tryd.prog Tryd.f8 [] false w args ∧ laidMetH Tryd.prog Rows.rightsNamesRow.laid w) ∧ sizedMet enc Tryd.prog Tryd.f8 (OpenSpec.ofChange Rows.rightsNamesSpec) false w args)
      (Rows.rightsNamesSpec.post enc Tryd.prog Tryd.f8 false true false false) := by
  refine returnsInHanded_of_change_and (C := Tryd.checked) (X := fun w _ => laidMetH Tryd.prog Rows.rightsNamesRow.laid w) (fun _ _ _ hh h => h.of_heap hh) own started (by kernel_rfl) Tryd.func8
    (ChangeSpec.witness_shaped (enc := enc) (C := Tryd.checked) (os := os) (X := fun w _ => laidMetH Tryd.prog Rows.rightsNamesRow.laid w) false (World.laidAll Tryd.prog os Rows.rightsNamesRow.laid) #[.int .i64 0, .string ⟨#[]⟩] 8 (World.laidAll_os _ _ _)
      (World.shaped_of_ZipB (by kernel_rfl) (by kernel_rfl)) (by kernel_rfl) (by kernel_rfl) (by kernel_rfl)
      (by rw [MakeChecks.laidMetH_plain _ _ _ (by kernel_rfl)]; exact laidMet_laidAll _ (by kernel_rfl) (by kernel_rfl))) ?_
  intro W base args ds gs before hval hW hcnd _ hL _
  rw [MakeChecks.laidMetH_plain _ _ _ (by kernel_rfl)] at hL
  have ep : Tryd.f8.params.toList = [3, 9] := by kernel_rfl
  refine law_post laidOut rfl (fun ds h => ?_) (tb := 4) (by kernel_rfl) Tryd.underlying4 ?_ hW (fun p hA => ?_)
  · rw [ep] at h
    match ds, h with
    | [a0, a1], _ => rfl
  · rw [ep]
    intro t ht
    simp at ht
    rcases ht with rfl | rfl <;> exact ⟨by kernel_rfl, of_decide_eq_true (by kernel_rfl)⟩
  · refine law_calls_laid primsOk mixed plainN Tryd.func8 rfl (S := S01) (tabs_of (Rows.rightsNamesRow.laid) W hL (by simp [Rows.rightsNamesRow])) tabs_get (n := 2) (base := base) (ts := Tryd.f8.params.toList) ?_ ?_ ?_ hA
    · rw [ep]
      intro t ht
      simp at ht
      rcases ht with rfl | rfl <;> kernel_rfl
    · rw [ep]
      exact rightsNamesMain
    · intro j t v h1 h2
      exact hval j t v (by simpa using h1) (by simpa using h2)

theorem rightsNamesRow : Rows.RightsNamesSaid :=
  OpenClaim.holds_of_wide 8 Tryd.f8 rfl rfl rfl rfl rfl rfl rfl ⟨rfl, rfl, rfl, rfl, rfl⟩ rfl rfl rfl rfl rfl (by kernel_rfl) Tryd.func8 (by kernel_rfl)
    (of_decide_eq_true (by kernel_rfl)) (by unfold Func.isWrapper; first | (rw [if_pos (by decide +kernel)]; kernel_rfl) | (rw [if_neg (by decide +kernel)]; exact ⟨rfl, rfl⟩))
    (fun os started H enc _ => rightsNamesLifted os started H enc)
theorem rightsNames : Rows.RightsNamesCardSaid :=
  Claim7.holds_tied_plain_at .later [] [.data, .listed, .data, .pinned] true (true, "3c558693262e81124e8e6753285b3fd0b157d0ea282c00bc061785a35e975268") false rightsNamesRow (fun _ h => by cases h) (by kernel_rfl) (fun _ h => by cases h) rightsNames_row_tie rfl ⟨rfl, rfl⟩ (by kernel_rfl) rfl
    (fun f fn hf hfn => by
      obtain rfl : f = 8 := Option.some.inj ((show Tryd.prog.funcNamed Rows.rightsNamesRow.func = some 8 by kernel_rfl).symm.trans hf) |>.symm
      obtain rfl : fn = Tryd.f8 := (Option.some.inj (Tryd.func8.symm.trans hfn)).symm
      exact ⟨by kernel_rfl, fun j t ht => by
        rw [Tryd.params8] at ht
        have hm : t ∈ [3, 9] := by simpa using Array.mem_of_getElem? ht
        have hall : ([3, 9].all fun u => !Tryd.prog.wantsStandIn u) = true := by kernel_rfl
        exact (show Tryd.prog.wantsStandIn t = false by simpa using List.all_eq_true.1 hall t hm)⟩)
    (by kernel_rfl)
-- #print axioms rightsNames
end Go.Proofs.YtneaadcnpebfeaaDoor
