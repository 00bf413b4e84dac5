/- Texts on this program, joined. -/
import Derived.Test.YtneaadcnpebfeaaDoorOwn13
import Derived.Test.YtneaadcnpebfeaaDoorKit14

/- Chapter 01: RightsNames, walked. -/
namespace Go.Abs
open Go.Proofs
set_option maxRecDepth 100000
set_option linter.unusedVariables false
set_option linter.unusedSimpArgs false

theorem space_of {H : Heap} (hL : Lain S01 H) : spaceAt 0 H = true := by
  have := (hL (0, .cells spaceC 5 false false) (by simp [S01])).1
  unfold spaceAt
  rw [this]
  exact AV.beqs_refl _
theorem fields_ok {H : Heap} (hL : Lain S01 H) {s : Txt} (h1 : s.length < 4294967281) (h2 : s.all (fun b => decide (b.toNat < 128)) = true) : Cl Tryd.prog pr01 43 [.str s] H fun r H' => Keep H H' ∧ Ss H' r (Lib.fields s) := by
  refine Cl.prim (g := fieldsP 0 9) rfl (v := .slice (some (H.next, 0)) (Lib.fields s).length (Lib.fields s).length none) (H' := H.push (.cells ((Lib.fields s).map .str) 9 true false)) ?_ ?_
  · exact if_pos ⟨h1, h2, space_of hL⟩
  · exact ⟨Upd.rfl.push _, Ss.pushed rfl (.inl rfl) rfl⟩
def NM : List Txt := [[114, 101, 97, 100], [119, 114, 105, 116, 101], [115, 101, 101, 107], [116, 101, 108, 108], [99, 114, 101, 97, 116, 101], [102, 115, 121, 110, 99], [116, 114, 117, 110, 99, 97, 116, 101], [108, 111, 111, 107, 117, 112], [99, 104, 100, 105, 114], [102, 99, 110, 116, 108], [115, 116, 97, 116], [114, 101, 97, 100, 100, 105, 114], [108, 105, 110, 107, 102, 114, 111, 109], [108, 105, 110, 107, 116, 111], [109, 107, 100, 105, 114], [114, 101, 110, 97, 109, 101, 102, 114, 111, 109], [114, 101, 110, 97, 109, 101, 116, 111], [115, 121, 109, 108, 105, 110, 107], [114, 101, 97, 100, 108, 105, 110, 107], [117, 110, 108, 105, 110, 107], [97, 99, 99, 101, 112, 116], [98, 105, 110, 100], [99, 111, 110, 110, 101, 99, 116], [108, 105, 115, 116, 101, 110], [115, 104, 117, 116, 100, 111, 119, 110], [98, 105, 110, 100, 97, 116], [99, 111, 110, 110, 101, 99, 116, 97, 116], [101, 118, 101, 110, 116], [105, 111, 99, 116, 108], [112, 100, 103, 101, 116, 112, 105, 100], [112, 100, 119, 97, 105, 116], [112, 100, 107, 105, 108, 108]]
def NT : Txt := [114, 101, 97, 100, 32, 119, 114, 105, 116, 101, 32, 115, 101, 101, 107, 32, 116, 101, 108, 108, 32, 99, 114, 101, 97, 116, 101, 32, 102, 115, 121, 110, 99, 32, 116, 114, 117, 110, 99, 97, 116, 101, 32, 108, 111, 111, 107, 117, 112, 32, 99, 104, 100, 105, 114, 32, 102, 99, 110, 116, 108, 32, 115, 116, 97, 116, 32, 114, 101, 97, 100, 100, 105, 114, 32, 108, 105, 110, 107, 102, 114, 111, 109, 32, 108, 105, 110, 107, 116, 111, 32, 109, 107, 100, 105, 114, 32, 114, 101, 110, 97, 109, 101, 102, 114, 111, 109, 32, 114, 101, 110, 97, 109, 101, 116, 111, 32, 115, 121, 109, 108, 105, 110, 107, 32, 114, 101, 97, 100, 108, 105, 110, 107, 32, 117, 110, 108, 105, 110, 107, 32, 97, 99, 99, 101, 112, 116, 32, 98, 105, 110, 100, 32, 99, 111, 110, 110, 101, 99, 116, 32, 108, 105, 115, 116, 101, 110, 32, 115, 104, 117, 116, 100, 111, 119, 110, 32, 98, 105, 110, 100, 97, 116, 32, 99, 111, 110, 110, 101, 99, 116, 97, 116, 32, 101, 118, 101, 110, 116, 32, 105, 111, 99, 116, 108, 32, 112, 100, 103, 101, 116, 112, 105, 100, 32, 112, 100, 119, 97, 105, 116, 32, 112, 100, 107, 105, 108, 108]
theorem nm_len : NM.length = 32 := rfl
theorem nt_len : NT.length < 4294967281 := of_decide_eq_true (by kernel_rfl)
theorem nt_low : NT.all (fun b => decide (b.toNat < 128)) = true := by kernel_rfl
theorem nt_split : Lib.fields NT = NM := by
  have : (Lib.fields NT == NM) = true := by kernel_rfl
  exact beq_iff_eq.1 this
theorem all_ok {H : Heap} (hL : Lain S01 H) : Cl Tryd.prog pr01 38 [] H fun r H' => Keep H H' ∧ Ss H' r NM := by
  have e := nt_split
  refine Cl.enter Tryd.func38 rfl rfl Tryd.ntmps38 (by simp) ?_
  refine walk none0 ?_
  refine (fields_ok (s := NT) hL nt_len nt_low).mono fun v H1 _ ⟨kA, h⟩ => ?_
  rw [e] at h
  refine walk none0 ?_
  exact ⟨kA, h⟩
theorem refNames_ok (H : Heap) : Cl Tryd.prog pr01 27 [] H fun r H' => Keep H H' ∧ Ss H' r NM := by
  refine Cl.enter Tryd.func27 rfl rfl Tryd.ntmps27 (by simp) ?_
  refine walk none0 ?_
  exact ⟨Upd.rfl.push _, Ss.pushed (l := NM) rfl (.inl rfl) rfl⟩
theorem idx_ok {H : Heap} {v : AV} {l : List Txt} {s : Txt} (h : Ss H v l) (hL : l.length ≤ 100000) : Cl Tryd.prog pr01 42 [v, .str s] H fun w H' => H' = H ∧ ((w = .int .i64 (-1) ∧ s ∉ l) ∨ ∃ i : Nat, w = .int .i64 i ∧ l[i]? = some s ∧ ∀ (k : Nat) (y : Txt), k < i → l[k]? = some y → y ≠ s) := by
  obtain ⟨a, cap, ex, rfl, hc, hex⟩ := h.form
  refine Cl.enter Tryd.func42 rfl rfl Tryd.ntmps42 (by simp) ?_
  refine walk none0 ?_
  refine Wq.loop (fun k e H' => ∃ i : Nat, i ≤ l.length ∧ k = l.length - i ∧ H' = H ∧ e 0 = .slice a l.length cap ex ∧ e 1 = .str s ∧ e 7 = .int .i64 l.length ∧ e 8 = .int .i64 i ∧ ∀ (k : Nat) (y : Txt), k < i → l[k]? = some y → y ≠ s) l.length ?_ ?_
  · exact ⟨0, by omega, by omega, rfl, by simp, by simp, by simp, by simp, fun k y hk => by omega⟩
  · rintro k e H' ⟨i, hi, rfl, rfl, g0, g1, g7, g8, hlo⟩
    by_cases hlt : i < l.length
    · obtain ⟨x, hx⟩ := get_lt' hlt
      obtain ⟨b, o, c, t, w, mk, rfl, _, hb1, hb2, hb3, hb4⟩ := str_at h hx
      by_cases hp : s = x
      · subst hp
        refine walk (both g0 (both g1 (both g7 (both g8 (both hlt (both hb2 (both hb3 hb4))))))) ?_
        exact ⟨rfl, .inr ⟨i, rfl, hx, hlo⟩⟩
      · refine walk (both g0 (both g1 (both g7 (both g8 (both hlt (both hb2 (both hb3 (both hb4 hp)))))))) ?_
        refine Roundq.normal (l.length - (i + 1)) (by omega) ⟨i + 1, by omega, rfl, rfl, by simp [g0], by simp [g1], by simp [g7], by simp, fun k y hk hy => ?_⟩
        rcases Nat.lt_or_ge k i with h' | h'
        · exact hlo k y h' hy
        · obtain rfl : k = i := by omega
          rw [hx] at hy; cases hy; exact fun e => hp e.symm
    · refine walk (both g0 (both g1 (both g7 (both g8 hlt)))) ?_
      refine ⟨rfl, .inl ⟨rfl, fun hm => ?_⟩⟩
      obtain ⟨k, hk⟩ := List.mem_iff_getElem?.1 hm
      exact hlo k s (by have := (List.getElem?_eq_some_iff.1 hk).1; omega) hk rfl
/-- What a name is: its bit, and whether it is one. -/
def nameP (s : Txt) (n : Nat) (ok : Bool) : Prop := (n = 0 ∧ ok = false ∧ s ∉ NM) ∨ ∃ i : Nat, i < 32 ∧ n = 2 ^ i ∧ ok = true ∧ NM[i]? = some s ∧ ∀ (k : Nat) (y : Txt), k < i → NM[k]? = some y → y ≠ s
theorem nameP_one {s : Txt} {n m : Nat} {a b : Bool} (h : nameP s n a) (g : nameP s m b) : n = m ∧ a = b := by
  rcases h with ⟨rfl, rfl, h⟩ | ⟨i, hi, rfl, rfl, h, h'⟩ <;> rcases g with ⟨rfl, rfl, g⟩ | ⟨j, hj, rfl, rfl, g, g'⟩
  · exact ⟨rfl, rfl⟩
  · exact absurd (List.mem_of_getElem? g) h
  · exact absurd (List.mem_of_getElem? h) g
  · rcases Nat.lt_trichotomy i j with c | rfl | c
    · exact absurd rfl (g' i s c h)
    · exact ⟨rfl, rfl⟩
    · exact absurd rfl (h' j s c g)
theorem shl_one {i : Nat} (hi : i < 32) : IntKind.u32.wrap (2 ^ min i IntKind.u32.bits) = ((2 ^ i : Nat) : Int) := by
  have : min i IntKind.u32.bits = i := Nat.min_eq_left (by simp [IntKind.bits]; omega)
  rw [this]
  have h : 2 ^ i < 2 ^ 32 := Nat.pow_lt_pow_right (by omega) hi
  have e : (2 : Int) ^ i = ((2 ^ i : Nat) : Int) := by simp
  rw [e]
  generalize 2 ^ i = n at *
  simp [IntKind.wrap, IntKind.signed, IntKind.bits]
  omega
theorem bit_ok {H : Heap} (hL : Lain S01 H) (s : Txt) : Cl Tryd.prog pr01 35 [.str s] H fun r H' => Keep H H' ∧ ∃ (n : Nat) (ok : Bool), r = .tuple [.int .u32 n, .bool ok] ∧ nameP s n ok := by
  refine Cl.enter Tryd.func35 rfl rfl Tryd.ntmps35 (by simp) ?_
  refine walk none0 ?_
  refine (all_ok hL).mono fun v H1 _ ⟨kA, h⟩ => ?_
  refine walk none0 ?_
  refine (idx_ok h (by simp [nm_len])).mono fun w H2 _ ⟨e0, hw⟩ => ?_
  subst e0
  rcases hw with ⟨rfl, hw⟩ | ⟨i, rfl, hi, hlo⟩
  · refine walk none0 ?_
    exact ⟨kA, 0, false, rfl, .inl ⟨rfl, rfl, hw⟩⟩
  · have hi' : i < 32 := (List.getElem?_eq_some_iff.1 hi).1
    have hw := shl_one hi'
    refine walk none0 ?_
    exact ⟨kA, 2 ^ i, true, by rw [hw], .inr ⟨i, hi', rfl, rfl, hi, hlo⟩⟩
theorem Bit_ok {H : Heap} (hL : Lain S01 H) (s : Txt) : Cl Tryd.prog pr01 25 [.str s] H fun r H' => Keep H H' ∧ ∃ (n : Nat) (ok : Bool), r = .tuple [.int .u32 n, .bool ok] ∧ nameP s n ok := by
  refine Cl.enter Tryd.func25 rfl rfl Tryd.ntmps25 (by simp) ?_
  refine walk none0 ?_
  refine (bit_ok hL s).mono fun v H1 _ ⟨kA, n, ok, e, h⟩ => ?_
  subst e
  refine walk none0 ?_
  exact ⟨kA, n, ok, rfl, h⟩
/-- The name of a number. -/
def nameOf (i : Int) : Option Txt := if 0 ≤ i ∧ i < 32 then NM[i.toNat]? else none
theorem Name_ok {H : Heap} (hL : Lain S01 H) (i : Int) : Cl Tryd.prog pr01 24 [.int .i64 i] H fun r H' => Keep H H' ∧ r = .tuple [.str ((nameOf i).getD []), .bool (decide (0 ≤ i ∧ i < 32))] := by
  by_cases h0 : 0 ≤ i ∧ i < 32
  · obtain ⟨n, rfl⟩ : ∃ n : Nat, i = n := ⟨i.toNat, by omega⟩
    have hn : n < 32 := by omega
    obtain ⟨x, hx⟩ := get_lt' (l := NM) (i := n) (by rw [nm_len]; exact hn)
    have en : nameOf n = some x := by rw [nameOf, if_pos h0, Int.toNat_natCast, hx]
    rw [en, decide_eq_true h0]
    refine Cl.enter Tryd.func24 rfl rfl Tryd.ntmps24 (by simp) ?_
    refine walk hn ?_
    refine (all_ok hL).mono fun v H1 _ ⟨kA, h⟩ => ?_
    obtain ⟨a, cap, ex, rfl, hc, hex⟩ := h.form
    obtain ⟨b, o, c, t, w, mk, rfl, _, hb1, hb2, hb3, hb4⟩ := str_at h hx
    refine walk (both hn (both hb2 (both hb3 (both hb4 nm_len)))) ?_
    exact ⟨kA, rfl⟩
  · have en : nameOf i = none := by rw [nameOf, if_neg h0]
    rw [en, decide_eq_false h0]
    refine Cl.enter Tryd.func24 rfl rfl Tryd.ntmps24 (by simp) ?_
    by_cases h1 : i < 0
    · refine walk h1 ?_
      exact ⟨Upd.rfl, rfl⟩
    · have h2 : 32 ≤ i := by omega
      refine walk (both h1 h2) ?_
      exact ⟨Upd.rfl, rfl⟩
theorem zeros_bools : ∀ n, zeros [.bool false] n = bools (List.replicate n false)
  | 0 => rfl
  | n + 1 => by rw [List.replicate_succ]; simp only [zeros, bools, List.map_cons, List.cons_append, List.nil_append]; rw [zeros_bools n]; rfl
theorem make32 : ∃ c, c = bools (List.replicate 32 false) ∧ ∀ H, makeSliceR Tryd.prog 53 (some (.int .i64 32)) (some (.int .i64 32)) H = some (.slice (some (H.next, 0)) 32 32 none, H.push (.cells c 4 true false)) := by
  refine ⟨_, rfl, fun H => ?_⟩
  have h : elemF Tryd.prog 53 = some (4, 1, 1, [.bool false]) := by kernel_rfl
  rw [makeSliceR_eq h (by omega)]
  rw [← zeros_bools]
  rfl
theorem bools_set (l : List Bool) (i : Nat) (b : Bool) : (bools l).set i (.bool b) = bools (l.set i b) := by unfold bools; rw [List.map_set]
theorem of_one {i : Nat} (hi : i < 32) : ofL ((List.replicate 32 false).set i true) = 2 ^ i := by
  apply Nat.eq_of_testBit_eq
  intro k
  rw [ofL_bit, Nat.testBit_two_pow, List.getD_eq_getElem?_getD, List.getElem?_set]
  by_cases h : i = k
  · subst h; simp [hi]
  · rw [if_neg h, List.getElem?_replicate]
    split <;> simp [h]
theorem refBit_ok (H : Heap) (s : Txt) : Cl Tryd.prog pr01 26 [.str s] H fun r H' => Keep H H' ∧ ∃ (n : Nat) (ok : Bool), r = .tuple [.int .u32 n, .bool ok] ∧ nameP s n ok := by
  obtain ⟨c0, hc0, hmk⟩ := make32
  refine Cl.enter Tryd.func26 rfl rfl Tryd.ntmps26 (by simp) ?_
  refine walk none0 ?_
  refine Wq.regionD [0, 1, 2, 3] (by kernel_rfl) ?_
  refine walk none0 ?_
  refine (refNames_ok H).mono fun v H1 _ ⟨kA, h⟩ => ?_
  obtain ⟨a, cap, ex, rfl, hc, hex⟩ := h.form
  have hm1 := hmk H1
  have kB : Keep H1 (H1.push (.cells c0 4 true false)) := Upd.rfl.push _
  refine walk hm1 ?_
  have h2 := h.kept kB
  have hbk : (H1.push (.cells c0 4 true false)).get H1.next = some (.cells c0 4 true false) := by simp
  have hnx : (H1.push (.cells c0 4 true false)).next = H1.next + 1 := by simp
  have hcl : c0.length = 32 := by rw [hc0]; simp [bools]
  generalize H1.push (.cells c0 4 true false) = H2 at *
  obtain ⟨L, hLL⟩ : ∃ L, L = NM.length := ⟨_, rfl⟩
  have hL32 : L = 32 := by rw [hLL, nm_len]
  rw [← hLL]
  refine Wq.loop (fun m e H' => ∃ i : Nat, i ≤ 32 ∧ m = 32 - i ∧ H' = H2 ∧ e 0 = .str s ∧ e 4 = .slice a L cap ex ∧ e 5 = .slice (some (H1.next, 0)) 32 32 none ∧ e 6 = .int .i64 i ∧ ∀ (k : Nat) (y : Txt), k < i → NM[k]? = some y → y ≠ s) 32 ?_ ?_
  · exact ⟨0, by omega, by omega, rfl, by simp, by simp, by simp, by simp, fun k y hk => by omega⟩
  · rintro k e H' ⟨i, hi, rfl, rfl, g0, g4, g5, g6, hlo⟩
    by_cases hlt : i < 32
    · obtain ⟨x, hx⟩ := get_lt' (l := NM) (i := i) (by rw [nm_len]; exact hlt)
      obtain ⟨b, o, c, t, w, mk, rfl, _, hb1, hb2, hb3, hb4⟩ := str_at h2 hx
      have hiL : i < L := by omega
      by_cases hp : x = s
      · subst hp
        refine walk (both g0 (both g4 (both g5 (both g6 (both hlt (both hiL (both hb2 (both hb3 (both hb4 (both hbk hcl)))))))))) ?_
        have hi' : i < 32 := hlt
        rw [hc0, bools_set]
        have hll : ((List.replicate 32 false).set i true).length = 32 := by simp
        have hofo := of_one hi'
        generalize (List.replicate 32 false).set i true = lo at *
        have hbl : (bools lo).length = 32 := by simp [bools, hll]
        have hsl : Sl (H'.set H1.next (.cells (bools lo) 4 true false)) 1 (.slice (some (H1.next, 0)) 32 32 none) lo.length (bools lo) := by
          unfold Sl
          rw [hll]
          refine ⟨by omega, .inr ⟨H1.next, 0, 32, none, rfl, Nat.le_refl _, .inl rfl, fun _ => ⟨by simp; omega, bools lo, 4, true, false, by simp, by omega, ?_⟩⟩⟩
          rw [List.drop_zero, List.take_of_length_le (by omega)]
        have hn1 := kA.next
        refine (of_ok hsl hll).mono fun v H3 _ ⟨e1, e2⟩ => ?_
        subst e1; subst e2
        refine walk g0 ?_
        exact ⟨(kA.then kB).set _ (by omega) (by omega), 2 ^ i, true, by rw [hofo], .inr ⟨i, hi', rfl, rfl, hx, hlo⟩⟩
      · refine walk (both g0 (both g4 (both g5 (both g6 (both hlt (both hiL (both hb2 (both hb3 (both hb4 hp))))))))) ?_
        refine Roundq.normal (32 - (i + 1)) (by omega) ⟨i + 1, by omega, rfl, rfl, by simp [g0], by simp [g4], by simp [g5], by simp, fun k y hk hy => ?_⟩
        rcases Nat.lt_or_ge k i with h' | h'
        · exact hlo k y h' hy
        · obtain rfl : k = i := by omega
          rw [hx] at hy; cases hy; exact hp
    · obtain rfl : i = 32 := by omega
      refine walk (both g0 (both g4 (both g5 g6))) ?_
      refine ⟨kA.then kB, 0, false, rfl, .inl ⟨rfl, rfl, fun hm => ?_⟩⟩
      obtain ⟨k, hk⟩ := List.mem_iff_getElem?.1 hm
      exact hlo k s (by have := (List.getElem?_eq_some_iff.1 hk).1; rw [nm_len] at this; omega) hk rfl
theorem names_at {s : Txt} {i : Nat} (h : i < 32) : ∃ x, NM[i]? = some x := get_lt' (by rw [nm_len]; exact h)
theorem rightsNames_main (i : Int) (s : Txt) {H : Heap} (hL : Lain S01 H) : Cl Tryd.prog pr01 8 [.int .i64 i, .str s] H fun v _ => v = .bool true := by
  refine Cl.enter Tryd.func8 rfl rfl Tryd.ntmps8 (by simp) ?_
  refine walk none0 ?_
  refine (Name_ok hL i).mono fun v H1 _ ⟨kA, e1⟩ => ?_
  subst e1
  have hL1 := lain_kept hL kA
  generalize hok : decide (0 ≤ i ∧ i < 32) = ok at *
  generalize hn : (nameOf i).getD [] = n at *
  refine walk none0 ?_
  refine (Bit_ok hL1 s).mono fun v H2 _ ⟨kB, b, is, e1, hb⟩ => ?_
  subst e1
  have hL2 := lain_kept hL1 kB
  refine walk none0 ?_
  refine (refBit_ok H2 s).mono fun v H3 _ ⟨kC, c, has, e1, hc⟩ => ?_
  subst e1
  have hL3 := lain_kept hL2 kC
  obtain ⟨rfl, rfl⟩ := nameP_one hb hc
  refine walk none0 ?_
  by_cases h0 : 0 ≤ i ∧ i < 32
  · obtain ⟨k, rfl⟩ : ∃ k : Nat, i = k := ⟨i.toNat, by omega⟩
    have hk : k < 32 := by omega
    rw [decide_eq_true h0] at hok
    subst hok
    obtain ⟨x, hx⟩ := get_lt' (l := NM) (i := k) (by rw [nm_len]; exact hk)
    have en : n = x := by rw [← hn, nameOf, if_pos h0, Int.toNat_natCast, hx]; rfl
    subst en
    refine walk hk ?_
    refine (refNames_ok H3).mono fun v H4 _ ⟨kD, h⟩ => ?_
    have hL4 := lain_kept hL3 kD
    obtain ⟨L, hLL⟩ : ∃ L, L = NM.length := ⟨_, rfl⟩
    have hL32 : L = 32 := by rw [hLL, nm_len]
    have hkL : k < L := by omega
    obtain ⟨a, cap, ex, rfl, hcp, hex⟩ := h.form
    obtain ⟨b, o, c, t, w, mk, rfl, _, hb1, hb2, hb3, hb4⟩ := str_at h hx
    rw [← hLL]
    refine walk (both hk (both hkL (both hb2 (both hb3 hb4)))) ?_
    refine (lives_ok hL4).mono fun v H5 _ ⟨e1, e2⟩ => ?_
    subst e1; subst e2
    refine walk none0 ?_
    rfl
  · rw [decide_eq_false h0] at hok
    subst hok
    have en : n = [] := by rw [← hn, nameOf, if_neg h0]; rfl
    subst en
    by_cases h1 : i < 0
    · refine walk h1 ?_
      refine (lives_ok hL3).mono fun v H5 _ ⟨e1, e2⟩ => ?_
      subst e1; subst e2
      refine walk none0 ?_
      rfl
    · have h2 : 31 < i := by omega
      refine walk (both h1 h2) ?_
      refine (lives_ok hL3).mono fun v H5 _ ⟨e1, e2⟩ => ?_
      subst e1; subst e2
      refine walk none0 ?_
      rfl
end Go.Abs

/- Chapter 01: a set's text, walked. -/
namespace Go.Abs
open Go.Proofs
set_option maxRecDepth 100000
set_option linter.unusedVariables false
set_option linter.unusedSimpArgs false

theorem joinS_ok {H : Heap} {v : AV} {l : List Txt} {sep : Txt} (h : Ss H v l) (hL : l.length ≤ 100000) (hJ : (Lib.join l sep).length ≤ 1000000) : Cl Tryd.prog pr01 40 [v, .str sep] H fun r H' => r = .str (Lib.join l sep) ∧ H' = H := by
  refine Cl.prim (v := .str (Lib.join l sep)) (H' := H) (g := fun args H => match joinAV args H with | some v => some (v, H) | none => none) rfl ?_ ⟨rfl, rfl⟩
  have : joinAV [v, .str sep] H = some (.str (Lib.join l sep)) := by
    obtain ⟨a, cap, ex, rfl, hc, hex⟩ := h.form
    unfold joinAV
    simp only []
    by_cases h0 : l.length = 0
    · rw [if_pos h0, List.eq_nil_of_length_eq_zero h0]; rfl
    · rw [if_neg h0]
      obtain ⟨b, o, c, t, w, m, rfl, h1, h2, h3, h4⟩ := Sl.at h (by omega)
      simp only [h2]
      rw [if_pos ⟨by omega, hc, hL⟩]
      rw [Nat.mul_one] at h4
      rw [h4]
      unfold strs
      rw [unstr_map]
      simp only []
      rw [if_pos (by omega)]
  simp only [this]
def nm (i : Nat) : Txt := NM.getD i []
/-- The names of the bits below this one. -/
def namesT (a : BitVec 32) (k : Nat) : List Txt := ((List.range k).filter (bitA a)).map nm
theorem namesT_step (a : BitVec 32) (k : Nat) : namesT a (k + 1) = if bitA a k then namesT a k ++ [nm k] else namesT a k := by
  unfold namesT
  rw [List.range_succ, List.filter_append, List.map_append]
  split <;> simp [*]
theorem nm_at {i : Nat} (h : i < 32) : NM[i]? = some (nm i) := by
  obtain ⟨x, hx⟩ := get_lt' (l := NM) (i := i) (by rw [nm_len]; exact h)
  rw [nm, List.getD_eq_getElem?_getD, hx]; rfl
theorem namesT_len (a : BitVec 32) (k : Nat) : (namesT a k).length ≤ k := by
  unfold namesT
  rw [List.length_map]
  exact Nat.le_trans (List.length_filter_le _ _) (by simp)
def showT (a : BitVec 32) : Txt := if a = 0#32 then [110, 111, 110, 101] else if a = 4294967295#32 then [97, 108, 108] else Lib.join (namesT a 32) [44]
theorem joinTail_cons (sep x : List UInt8) (r : List (List UInt8)) : Lib.joinTail sep (x :: r) = sep ++ x ++ Lib.joinTail sep r := by simp [Lib.joinTail]
theorem joinTail_len {m : Nat} : ∀ (l : List Txt), (∀ x ∈ l, x.length ≤ m) → (Lib.joinTail [44] l).length ≤ l.length * (m + 1)
  | [], _ => by simp [Lib.joinTail]
  | x :: r, h => by
    have h1 := h x (by simp)
    have h2 := joinTail_len r fun y hy => h y (by simp [hy])
    rw [joinTail_cons, List.length_append, List.length_append, show (x :: r).length = r.length + 1 from rfl, Nat.add_mul]
    simp only [List.length_cons, List.length_nil]
    omega
theorem join_len {m : Nat} (l : List Txt) (h : ∀ x ∈ l, x.length ≤ m) : (Lib.join l [44]).length ≤ l.length * (m + 1) := by
  cases l with
  | nil => simp [Lib.join_nil]
  | cons x r =>
    rw [Lib.join_cons, List.length_append, List.length_cons, Nat.add_mul]
    have h1 := h x (by simp)
    have h2 := joinTail_len r fun y hy => h y (by simp [hy])
    omega
theorem nm_short : ∀ x ∈ NM, x.length ≤ 16 := by
  have : NM.all (fun x => decide (x.length ≤ 16)) = true := by kernel_rfl
  intro x hx
  have := List.all_eq_true.1 this x hx
  simpa using this
theorem namesT_mem {a : BitVec 32} {x : Txt} (h : x ∈ namesT a 32) : x ∈ NM := by
  unfold namesT at h
  rw [List.mem_map] at h
  obtain ⟨i, hi, rfl⟩ := h
  rw [List.mem_filter] at hi
  exact List.mem_of_getElem? (nm_at (by simpa using hi.1))
theorem namesT_join (a : BitVec 32) : (Lib.join (namesT a 32) [44]).length ≤ 1000 := by
  have h1 := join_len (namesT a 32) fun x hx => nm_short x (namesT_mem hx)
  have h2 := namesT_len a 32
  have h3 : (namesT a 32).length * (16 + 1) ≤ 32 * 17 := Nat.mul_le_mul_right _ h2
  omega
theorem bit_test (a : BitVec 32) {i : Nat} (hi : i < 32) : (IntKind.u32.wrap (((((a.toNat : Int).fdiv (2 ^ min i IntKind.u32.bits)) % 2 ^ IntKind.u32.bits).toNat &&& 1 % 2 ^ IntKind.u32.bits : Nat) : Int) = 1) = (bitA a i = true) := by
  have hlt := a.isLt
  rw [fd a.toNat i (by omega)]
  have h0 : a.toNat / 2 ^ i < 2 ^ 32 := Nat.lt_of_le_of_lt (Nat.div_le_self _ _) hlt
  have h1 : (((a.toNat / 2 ^ i : Nat) : Int) % 2 ^ IntKind.u32.bits).toNat = a.toNat / 2 ^ i := by
    generalize a.toNat / 2 ^ i = n at *
    simp [IntKind.bits]; omega
  have h2 : 1 % 2 ^ IntKind.u32.bits = 2 ^ 1 - 1 := by simp [IntKind.bits]
  rw [h1, h2, Nat.and_two_pow_sub_one_eq_mod, bitA_eq]
  simp only [BitVec.getLsbD, Nat.testBit_eq_decide_div_mod_eq]
  generalize a.toNat / 2 ^ i = n at *
  simp [IntKind.wrap, IntKind.signed, IntKind.bits]
  omega
theorem show_ok (a : BitVec 32) {H : Heap} (hL : Lain S01 H) : Cl Tryd.prog pr01 33 [.int .u32 a.toNat] H fun r H' => Keep H H' ∧ r = .str (showT a) := by
  have hJ := namesT_join a
  have hNL := namesT_len a 32
  refine Cl.enter Tryd.func33 rfl rfl Tryd.ntmps33 (by simp) ?_
  refine walk none0 ?_
  by_cases h0 : a.toNat = 0
  · have e : showT a = [110, 111, 110, 101] := by rw [showT, if_pos (BitVec.eq_of_toNat_eq h0)]
    rw [e]
    refine walk h0 ?_
    exact ⟨Upd.rfl, rfl⟩
  · have z0 : a ≠ 0#32 := fun e => h0 (by rw [e]; rfl)
    by_cases h1 : a.toNat = 4294967295
    · have e : showT a = [97, 108, 108] := by rw [showT, if_neg z0, if_pos (BitVec.eq_of_toNat_eq h1)]
      rw [e]
      refine walk (both h0 h1) ?_
      exact ⟨Upd.rfl, rfl⟩
    · have z1 : a ≠ 4294967295#32 := fun e => h1 (by rw [e]; rfl)
      have e : showT a = Lib.join (namesT a 32) [44] := by rw [showT, if_neg z0, if_neg z1]
      rw [e]
      have h1' : ((a.toNat : Int) = 4294967295) = False := by simp; omega
      refine walk (both h0 (both h1 h1')) ?_
      refine (all_ok hL).mono fun v H1 _ ⟨kA, h⟩ => ?_
      obtain ⟨va, cap, ex, rfl, hc, hex⟩ := h.form
      obtain ⟨L, hLL⟩ : ∃ L, L = NM.length := ⟨_, rfl⟩
      have hL32 : L = 32 := by rw [hLL, nm_len]
      rw [← hLL] at h ⊢
      refine walk none0 ?_
      refine Wq.loop (fun m e H' => ∃ (i : Nat) (w : AV), i ≤ 32 ∧ m = 32 - i ∧ e 0 = .int .u32 a.toNat ∧ e 3 = w ∧ e 11 = .slice va L cap ex ∧ e 12 = .int .i64 L ∧ e 13 = .int .i64 i ∧ FreshG H1 H' 9 1 w (namesT a i).length (strs (namesT a i))) 32 ?_ ?_
      · exact ⟨0, _, by omega, by omega, by simp, by simp, by simp, by simp, by simp, FreshG.nil Upd.rfl⟩
      · rintro m e H' ⟨i, w, hi, rfl, g0, g3, g11, g12, g13, hF⟩
        obtain ⟨wa, wc, wx, rfl, hwc, hwx⟩ := hF.own.form
        have hl := namesT_len a i
        by_cases hlt : i < 32
        · have hiL : i < L := by omega
          have hb := bit_test a hlt
          have hst := namesT_step a i
          obtain ⟨b, o, c, t, w, mk, rfl, _, hb1, hb2, hb3, hb4⟩ := str_at (h.kept hF.keep) (nm_at hlt)
          cases hbi : bitA a i with
          | true =>
            rw [hbi] at hb hst
            have hb := eq_true (hb.mpr rfl)
            rw [if_pos rfl] at hst
            refine walk (both g0 (both g3 (both g11 (both g12 (both g13 (both hiL (both hb2 (both hb3 (both hb4 hb))))))))) ?_
            have kB : Keep H' (H'.push (.cells [.str (nm i)] 9 true false)) := Upd.rfl.push _
            refine Oq.appendG (own := (hF.own.kept kB)) (new := [.str (nm i)]) (m := 1) (by simp (disch := omega) [g0, g3, -getElem?_pos, wrapI64, tdivN, tmodN, ipos, ineg, dpos, dneg, slc_l, slc_h, slc_lh, slc_hm, slc_lhm, slc_0, slcR_some, slcR_none, cutS_ok, cutA_ok, byteAt_ok]; first | done | (repeat' (first | rfl | apply And.intro))) ⟨_, rfl, by simp; first | done | (repeat' (first | rfl | apply And.intro))⟩ rfl (by kernel_rfl) (by kernel_rfl) (by refine ⟨by simp, ?_⟩; simp (disch := omega) [srcCells, cellsAt, g0, g3, -getElem?_pos, wrapI64, tdivN, tmodN, ipos, ineg, dpos, dneg, slc_l, slc_h, slc_lh, slc_hm, slc_lhm, slc_0, slcR_some, slcR_none, cutS_ok, cutA_ok, byteAt_ok]; first | done | rfl) (by simp [g0, g3]) (by simp [g0, g3]) (by omega) (by omega) fun w1 H2 o1 b1 s1 => ?_
            have f1 := (hF.then kB).app o1 b1 s1
            refine walk (both g0 (both g11 (both g12 g13))) ?_
            refine Roundq.normal (32 - (i + 1)) (by omega) ⟨i + 1, w1, by omega, rfl, by simp [g0], by simp, by simp [g11], by simp [g12], by simp, ?_⟩
            rw [hst, ← strs_app, List.length_append]
            exact f1
          | false =>
            rw [hbi] at hb hst
            have hb := eq_false (fun h => Bool.noConfusion (hb.mp h))
            rw [if_neg (by simp)] at hst
            refine walk (both g0 (both g3 (both g11 (both g12 (both g13 (both hiL (both hb2 (both hb3 (both hb4 hb))))))))) ?_
            refine Roundq.normal (32 - (i + 1)) (by omega) ⟨i + 1, _, by omega, rfl, by simp [g0], by simp [g3]; rfl, by simp [g11], by simp [g12], by simp, ?_⟩
            rw [hst]
            exact hF
        · obtain rfl : i = 32 := by omega
          have hS : Ss H' (.slice wa (namesT a 32).length wc wx) (namesT a 32) := hF.own.sl
          have hnl : (namesT a 32).length ≤ 100000 := by omega
          have hJ1 : (Lib.join (namesT a 32) [44]).length ≤ 1000000 := by omega
          generalize namesT a 32 = l at *
          obtain ⟨K, hK⟩ : ∃ K, K = l.length := ⟨_, rfl⟩
          rw [← hK] at hS g3
          have hL2 : ¬ 32 < L := by omega
          refine walk (both g0 (both g3 (both g11 (both g12 (both g13 (both hL2 hL32)))))) ?_
          refine (joinS_ok hS hnl hJ1).mono fun v H3 _ ⟨e1, e2⟩ => ?_
          subst e1; subst e2
          refine walk none0 ?_
          exact ⟨kA.then hF.keep, rfl⟩
end Go.Abs

/- Chapter 01: the reference's text of a set, walked. -/
namespace Go.Abs
open Go.Proofs
set_option maxRecDepth 100000
set_option linter.unusedVariables false
set_option linter.unusedSimpArgs false

theorem Show_ok (a : BitVec 32) {H : Heap} (hL : Lain S01 H) : Cl Tryd.prog pr01 14 [.int .u32 a.toNat] H fun r H' => Keep H H' ∧ r = .str (showT a) := by
  refine Cl.enter Tryd.func14 rfl rfl Tryd.ntmps14 (by simp) ?_
  refine walk none0 ?_
  refine (show_ok a hL).mono fun v H1 _ ⟨kA, e1⟩ => ?_
  subst e1
  refine walk none0 ?_
  exact ⟨kA, rfl⟩
theorem joinTail_app (sep : List UInt8) (l : List (List UInt8)) (x : List UInt8) : Lib.joinTail sep (l ++ [x]) = Lib.joinTail sep l ++ (sep ++ x) := by simp [Lib.joinTail]
theorem join_snoc (sep : List UInt8) (l : List (List UInt8)) (x : List UInt8) : Lib.join (l ++ [x]) sep = if l = [] then x else Lib.join l sep ++ (sep ++ x) := by
  cases l with
  | nil => simp [Lib.join_one]
  | cons y r =>
    rw [if_neg (by simp), List.cons_append, Lib.join_cons, Lib.join_cons, joinTail_app, List.append_assoc]
theorem join_nil_iff (sep : List UInt8) (l : List (List UInt8)) (h : ∀ x ∈ l, x ≠ []) : Lib.join l sep = [] ↔ l = [] := by
  cases l with
  | nil => simp [Lib.join_nil]
  | cons y r =>
    have := h y (by simp)
    rw [Lib.join_cons]
    simp [this]
theorem nm_ne : ∀ x ∈ NM, x ≠ [] := by
  have : NM.all (fun x => !x.isEmpty) = true := by kernel_rfl
  intro x hx e
  have := List.all_eq_true.1 this x hx
  rw [e] at this
  cases this
theorem namesT_in {a : BitVec 32} {x : Txt} {k : Nat} (hk : k ≤ 32) (h : x ∈ namesT a k) : x ∈ NM := by
  unfold namesT at h
  rw [List.mem_map] at h
  obtain ⟨i, hi, rfl⟩ := h
  rw [List.mem_filter] at hi
  have : i < k := by simpa using hi.1
  exact List.mem_of_getElem? (nm_at (by omega))
theorem namesT_nil (a : BitVec 32) : namesT a 32 = [] ↔ a = 0#32 := by
  unfold namesT
  rw [List.map_eq_nil_iff, List.filter_eq_nil_iff]
  constructor
  · intro h
    apply BitVec.eq_of_getLsbD_eq
    intro i hi
    have := h i (by simpa using hi)
    rw [bitA_eq] at this
    simpa using this
  · rintro rfl i hi
    simp [bitA]
theorem cntA_all (a : BitVec 32) : cntA a = 32 ↔ a = 4294967295#32 := by
  have hl : (List.range 32).length = 32 := by simp
  have : cntA a = 32 ↔ ∀ i ∈ List.range 32, bitA a i = true := by
    rw [← List.countP_eq_length, hl]; rfl
  rw [this]
  constructor
  · intro h
    apply BitVec.eq_of_getLsbD_eq
    intro i hi
    have := h i (by simpa using hi)
    rw [bitA_eq] at this
    rw [this]
    have h1 : (4294967295#32) = BitVec.allOnes 32 := rfl
    rw [h1, BitVec.getLsbD_allOnes]
    simp [hi]
  · rintro rfl i hi
    rw [bitA_eq]
    have h1 : (4294967295#32) = BitVec.allOnes 32 := rfl
    rw [h1, BitVec.getLsbD_allOnes]
    simpa using hi
def joinT (a : BitVec 32) (k : Nat) : Txt := Lib.join (namesT a k) [44]
theorem joinT_step {a : BitVec 32} {k : Nat} (hk : k < 32) : joinT a (k + 1) = if bitA a k = true then (if joinT a k = [] then nm k else joinT a k ++ (44 :: nm k)) else joinT a k := by
  have h1 := join_nil_iff [44] (namesT a k) fun x hx => nm_ne x (namesT_in (by omega) hx)
  unfold joinT
  rw [namesT_step]
  split
  · rw [join_snoc]
    by_cases h : namesT a k = []
    · rw [if_pos h, if_pos (h1.2 h)]
    · rw [if_neg h, if_neg (fun e => h (h1.1 e))]; rfl
  · rfl
theorem refShow_ok (a : BitVec 32) (H : Heap) : Cl Tryd.prog pr01 16 [.int .u32 a.toNat] H fun r H' => Keep H H' ∧ r = .str (showT a) := by
  have hJ : ∀ k, k ≤ 32 → (joinT a k).length ≤ 1000 := by
    intro k hk
    have h1 := join_len (namesT a k) fun x hx => nm_short x (namesT_in hk hx)
    have h2 := namesT_len a k
    have h3 : (namesT a k).length * (16 + 1) ≤ 32 * 17 := Nat.mul_le_mul_right _ (by omega)
    unfold joinT
    omega
  have hnil : joinT a 32 = [] ↔ a = 0#32 := by
    unfold joinT
    rw [join_nil_iff [44] (namesT a 32) fun x hx => nm_ne x (namesT_in (by omega) hx)]
    exact namesT_nil a
  have hall := cntA_all a
  have hst := @joinT_step a
  have hshow : showT a = if a = 0#32 then [110, 111, 110, 101] else if a = 4294967295#32 then [97, 108, 108] else joinT a 32 := rfl
  have hj0 : joinT a 0 = [] := rfl
  generalize joinT a = J at *
  refine Cl.enter Tryd.func16 rfl rfl Tryd.ntmps16 (by simp) ?_
  refine walk none0 ?_
  refine (refNames_ok H).mono fun v H1 _ ⟨kA, h⟩ => ?_
  obtain ⟨va, cap, ex, rfl, hc, hex⟩ := h.form
  obtain ⟨L, hLL⟩ : ∃ L, L = NM.length := ⟨_, rfl⟩
  have hL32 : L = 32 := by rw [hLL, nm_len]
  rw [← hLL] at h ⊢
  refine walk none0 ?_
  refine Wq.loop (fun m e H' => ∃ (i : Nat), i ≤ 32 ∧ m = 32 - i ∧ H' = H1 ∧ e 0 = .int .u32 a.toNat ∧ e 3 = .str (J i) ∧ e 4 = .slice va L cap ex ∧ e 5 = .int .i64 i) 32 ?_ ?_
  · exact ⟨0, by omega, by omega, rfl, by simp, by simp [hj0], by simp, by simp⟩
  · rintro m e H' ⟨i, hi, rfl, rfl, g0, g3, g4, g5⟩
    by_cases hlt : i < 32
    · have hiL : i < L := by omega
      have hs := hst hlt
      have hl1 := hJ i hi
      have hnm := nm_short _ (List.mem_of_getElem? (nm_at hlt))
      have hl2 := hJ (i + 1) (by omega)
      obtain ⟨b, o, c, t, w, mk, rfl, _, hb1, hb2, hb3, hb4⟩ := str_at h (nm_at hlt)
      refine walk (both g0 (both g3 (both g4 (both g5 hlt)))) ?_
      refine (has_ok a i hlt H').mono fun v H2 _ ⟨e1, e2⟩ => ?_
      subst e1; subst e2
      cases hbi : bitA a i with
      | true =>
        rw [hbi, if_pos rfl] at hs
        by_cases hn : J i = []
        · rw [if_pos hn] at hs
          refine walk (both g0 (both g3 (both g4 (both g5 (both hn (both hiL (both hb2 (both hb3 hb4)))))))) ?_
          refine Roundq.normal (32 - (i + 1)) (by omega) ⟨i + 1, by omega, rfl, rfl, by simp [g0], by simp [hs], by simp [g4], by simp⟩
        · rw [if_neg hn] at hs
          refine walk (both g0 (both g3 (both g4 (both g5 (both hn (both hiL (both hb2 (both hb3 hb4)))))))) ?_
          refine Roundq.normal (32 - (i + 1)) (by omega) ⟨i + 1, by omega, rfl, rfl, by simp [g0], by simp [hs], by simp [g4], by simp⟩
      | false =>
        rw [hbi, if_neg (by simp)] at hs
        refine walk (both g0 (both g3 (both g4 g5))) ?_
        refine Roundq.normal (32 - (i + 1)) (by omega) ⟨i + 1, by omega, rfl, rfl, by simp [g0], by simp [hs, g3], by simp [g4], by simp⟩
    · obtain rfl : i = 32 := by omega
      by_cases hn : J 32 = []
      · rw [hshow, if_pos (hnil.1 hn)]
        refine walk (both g0 (both g3 (both g4 (both g5 hn)))) ?_
        exact ⟨kA, rfl⟩
      · have z0 : a ≠ 0#32 := fun e => hn (hnil.2 e)
        rw [hshow, if_neg z0]
        refine walk (both g0 (both g3 (both g4 (both g5 hn)))) ?_
        refine (refCount_ok a H').mono fun v H2 _ ⟨e1, e2⟩ => ?_
        subst e1; subst e2
        by_cases hc : cntA a = 32
        · rw [if_pos (hall.1 hc)]
          refine walk (both g0 (both g3 (both g4 (both g5 hc)))) ?_
          exact ⟨kA, rfl⟩
        · rw [if_neg fun e => hc (hall.2 e)]
          have hc' : ((cntA a : Int) = 32) = False := by simp; omega
          refine walk (both g0 (both g3 (both g4 (both g5 (both hc hc'))))) ?_
          exact ⟨kA, rfl⟩
end Go.Abs
