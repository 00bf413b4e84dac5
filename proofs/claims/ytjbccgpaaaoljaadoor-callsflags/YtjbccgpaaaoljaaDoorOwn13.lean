/- Texts on this program, joined. -/
import Derived.Test.YtjbccgpaaaoljaaDoorOwn11
import Derived.Test.YtjbccgpaaaoljaaDoorKit12
import Derived.Test.YtjbccgpaaaoljaaDoorKit04
import Derived.KernelRfl
import Derived.Test.YtjbccgpaaaoljaaDoorRows
import Derived.Test.YtjbccgpaaaoljaaDoorTie
import Derived.Test.YtjbccgpaaaoljaaDoorCards
import Derived.WalkKit
import Derived.ProofKit
import Derived.OpenShut
import Derived.ShutString
import Derived.ChangeOld
import Derived.Below
import Derived.Lib.LaidU8
import Derived.PinnedBridge
import Derived.Lay
import Derived.LaidOnce
import Derived.SevenTiedAt

/- Chapter 15: the bits of names; the pieces of texts. -/
namespace Go.Abs
open Go.Proofs
set_option maxRecDepth 100000
set_option linter.unusedVariables false
set_option linter.unusedSimpArgs false

noncomputable def pr15 : Prims := relocPrims Tryd.prog base15 S15 [14]
theorem lain_kept {S : Stats} {H H' : Heap} (h : Lain S H) (g : Keep H H') : Lain S H' := fun p hp => ⟨(g.get (h p hp).2).trans (h p hp).1, Nat.lt_of_lt_of_le (h p hp).2 g.next⟩
theorem space_of {H : Heap} (hL : Lain S15 H) : spaceAt 0 H = true := by
  have := (hL (0, .cells spaceC 5 false false) (by simp [S15])).1
  unfold spaceAt
  rw [this]
  exact AV.beqs_refl _
theorem fields_ok {H : Heap} (hL : Lain S15 H) {s : Txt} (h1 : s.length < 4294967281) (h2 : s.all (fun b => decide (b.toNat < 128)) = true) : Cl Tryd.prog pr15 24 [.str s] H fun r H' => Keep H H' ∧ Ss H' r (Lib.fields s) := by
  refine Cl.prim (g := fieldsP 0 9) rfl (v := .slice (some (H.next, 0)) (Lib.fields s).length (Lib.fields s).length none) (H' := H.push (.cells ((Lib.fields s).map .str) 9 true false)) ?_ ?_
  · exact if_pos ⟨h1, h2, space_of hL⟩
  · exact ⟨Upd.rfl.push _, Ss.pushed rfl (.inl rfl) rfl⟩
def NM : List Txt := [[114, 101, 97, 100], [119, 114, 105, 116, 101], [115, 101, 101, 107], [116, 101, 108, 108], [99, 114, 101, 97, 116, 101], [102, 115, 121, 110, 99], [116, 114, 117, 110, 99, 97, 116, 101], [108, 111, 111, 107, 117, 112], [99, 104, 100, 105, 114], [102, 99, 110, 116, 108], [115, 116, 97, 116], [114, 101, 97, 100, 100, 105, 114], [108, 105, 110, 107, 102, 114, 111, 109], [108, 105, 110, 107, 116, 111], [109, 107, 100, 105, 114], [114, 101, 110, 97, 109, 101, 102, 114, 111, 109], [114, 101, 110, 97, 109, 101, 116, 111], [115, 121, 109, 108, 105, 110, 107], [114, 101, 97, 100, 108, 105, 110, 107], [117, 110, 108, 105, 110, 107], [97, 99, 99, 101, 112, 116], [98, 105, 110, 100], [99, 111, 110, 110, 101, 99, 116], [108, 105, 115, 116, 101, 110], [115, 104, 117, 116, 100, 111, 119, 110], [98, 105, 110, 100, 97, 116], [99, 111, 110, 110, 101, 99, 116, 97, 116], [101, 118, 101, 110, 116], [105, 111, 99, 116, 108], [112, 100, 103, 101, 116, 112, 105, 100], [112, 100, 119, 97, 105, 116], [112, 100, 107, 105, 108, 108]]
def NT : Txt := [114, 101, 97, 100, 32, 119, 114, 105, 116, 101, 32, 115, 101, 101, 107, 32, 116, 101, 108, 108, 32, 99, 114, 101, 97, 116, 101, 32, 102, 115, 121, 110, 99, 32, 116, 114, 117, 110, 99, 97, 116, 101, 32, 108, 111, 111, 107, 117, 112, 32, 99, 104, 100, 105, 114, 32, 102, 99, 110, 116, 108, 32, 115, 116, 97, 116, 32, 114, 101, 97, 100, 100, 105, 114, 32, 108, 105, 110, 107, 102, 114, 111, 109, 32, 108, 105, 110, 107, 116, 111, 32, 109, 107, 100, 105, 114, 32, 114, 101, 110, 97, 109, 101, 102, 114, 111, 109, 32, 114, 101, 110, 97, 109, 101, 116, 111, 32, 115, 121, 109, 108, 105, 110, 107, 32, 114, 101, 97, 100, 108, 105, 110, 107, 32, 117, 110, 108, 105, 110, 107, 32, 97, 99, 99, 101, 112, 116, 32, 98, 105, 110, 100, 32, 99, 111, 110, 110, 101, 99, 116, 32, 108, 105, 115, 116, 101, 110, 32, 115, 104, 117, 116, 100, 111, 119, 110, 32, 98, 105, 110, 100, 97, 116, 32, 99, 111, 110, 110, 101, 99, 116, 97, 116, 32, 101, 118, 101, 110, 116, 32, 105, 111, 99, 116, 108, 32, 112, 100, 103, 101, 116, 112, 105, 100, 32, 112, 100, 119, 97, 105, 116, 32, 112, 100, 107, 105, 108, 108]
theorem nm_len : NM.length = 32 := rfl
theorem nt_len : NT.length < 4294967281 := of_decide_eq_true (by kernel_rfl)
theorem nt_low : NT.all (fun b => decide (b.toNat < 128)) = true := by kernel_rfl
theorem nt_split : Lib.fields NT = NM := by
  have : (Lib.fields NT == NM) = true := by kernel_rfl
  exact beq_iff_eq.1 this
theorem all_ok {H : Heap} (hL : Lain S15 H) : Cl Tryd.prog pr15 39 [] H fun r H' => Keep H H' ∧ Ss H' r NM := by
  have e := nt_split
  refine Cl.enter Tryd.func39 rfl rfl Tryd.ntmps39 (by simp) ?_
  refine walk none0 ?_
  refine (fields_ok (s := NT) hL nt_len nt_low).mono fun v H1 _ ⟨kA, h⟩ => ?_
  rw [e] at h
  refine walk none0 ?_
  exact ⟨kA, h⟩
theorem idx_ok {H : Heap} {v : AV} {l : List Txt} {s : Txt} (h : Ss H v l) (hL : l.length ≤ 100000) : Cl Tryd.prog pr15 33 [v, .str s] H fun w H' => H' = H ∧ ((w = .int .i64 (-1) ∧ s ∉ l) ∨ ∃ i : Nat, w = .int .i64 i ∧ l[i]? = some s ∧ ∀ (k : Nat) (y : Txt), k < i → l[k]? = some y → y ≠ s) := by
  obtain ⟨a, cap, ex, rfl, hc, hex⟩ := h.form
  refine Cl.enter Tryd.func33 rfl rfl Tryd.ntmps33 (by simp) ?_
  refine walk none0 ?_
  refine Wq.loop (fun k e H' => ∃ i : Nat, i ≤ l.length ∧ k = l.length - i ∧ H' = H ∧ e 0 = .slice a l.length cap ex ∧ e 1 = .str s ∧ e 7 = .int .i64 l.length ∧ e 8 = .int .i64 i ∧ ∀ (k : Nat) (y : Txt), k < i → l[k]? = some y → y ≠ s) l.length ?_ ?_
  · exact ⟨0, by omega, by omega, rfl, by simp, by simp, by simp, by simp, fun k y hk => by omega⟩
  · rintro k e H' ⟨i, hi, rfl, rfl, g0, g1, g7, g8, hlo⟩
    by_cases hlt : i < l.length
    · obtain ⟨x, hx⟩ := get_lt' hlt
      obtain ⟨b, o, c, t, w, mk, rfl, _, hb1, hb2, hb3, hb4⟩ := str_at h hx
      by_cases hp : s = x
      · subst hp
        refine walk (both g0 (both g1 (both g7 (both g8 (both hlt (both hb2 (both hb3 hb4))))))) ?_
        exact ⟨rfl, .inr ⟨i, rfl, hx, hlo⟩⟩
      · refine walk (both g0 (both g1 (both g7 (both g8 (both hlt (both hb2 (both hb3 (both hb4 hp)))))))) ?_
        refine Roundq.normal (l.length - (i + 1)) (by omega) ⟨i + 1, by omega, rfl, rfl, by simp [g0], by simp [g1], by simp [g7], by simp, fun k y hk hy => ?_⟩
        rcases Nat.lt_or_ge k i with h' | h'
        · exact hlo k y h' hy
        · obtain rfl : k = i := by omega
          rw [hx] at hy; cases hy; exact fun e => hp e.symm
    · refine walk (both g0 (both g1 (both g7 (both g8 hlt)))) ?_
      refine ⟨rfl, .inl ⟨rfl, fun hm => ?_⟩⟩
      obtain ⟨k, hk⟩ := List.mem_iff_getElem?.1 hm
      exact hlo k s (by have := (List.getElem?_eq_some_iff.1 hk).1; omega) hk rfl
/-- What a name is: its bit, and whether it is one. -/
def nameP (s : Txt) (n : Nat) (ok : Bool) : Prop := (n = 0 ∧ ok = false ∧ s ∉ NM) ∨ ∃ i : Nat, i < 32 ∧ n = 2 ^ i ∧ ok = true ∧ NM[i]? = some s ∧ ∀ (k : Nat) (y : Txt), k < i → NM[k]? = some y → y ≠ s
theorem nameP_one {s : Txt} {n m : Nat} {a b : Bool} (h : nameP s n a) (g : nameP s m b) : n = m ∧ a = b := by
  rcases h with ⟨rfl, rfl, h⟩ | ⟨i, hi, rfl, rfl, h, h'⟩ <;> rcases g with ⟨rfl, rfl, g⟩ | ⟨j, hj, rfl, rfl, g, g'⟩
  · exact ⟨rfl, rfl⟩
  · exact absurd (List.mem_of_getElem? g) h
  · exact absurd (List.mem_of_getElem? h) g
  · rcases Nat.lt_trichotomy i j with c | rfl | c
    · exact absurd rfl (g' i s c h)
    · exact ⟨rfl, rfl⟩
    · exact absurd rfl (h' j s c g)
theorem shl_one {i : Nat} (hi : i < 32) : IntKind.u32.wrap (2 ^ min i IntKind.u32.bits) = ((2 ^ i : Nat) : Int) := by
  have : min i IntKind.u32.bits = i := Nat.min_eq_left (by simp [IntKind.bits]; omega)
  rw [this]
  have h : 2 ^ i < 2 ^ 32 := Nat.pow_lt_pow_right (by omega) hi
  have e : (2 : Int) ^ i = ((2 ^ i : Nat) : Int) := by simp
  rw [e]
  generalize 2 ^ i = n at *
  simp [IntKind.wrap, IntKind.signed, IntKind.bits]
  omega
theorem bit_ok {H : Heap} (hL : Lain S15 H) (s : Txt) : Cl Tryd.prog pr15 30 [.str s] H fun r H' => Keep H H' ∧ ∃ (n : Nat) (ok : Bool), r = .tuple [.int .u32 n, .bool ok] ∧ nameP s n ok := by
  refine Cl.enter Tryd.func30 rfl rfl Tryd.ntmps30 (by simp) ?_
  refine walk none0 ?_
  refine (all_ok hL).mono fun v H1 _ ⟨kA, h⟩ => ?_
  refine walk none0 ?_
  refine (idx_ok h (by simp [nm_len])).mono fun w H2 _ ⟨e0, hw⟩ => ?_
  subst e0
  rcases hw with ⟨rfl, hw⟩ | ⟨i, rfl, hi, hlo⟩
  · refine walk none0 ?_
    exact ⟨kA, 0, false, rfl, .inl ⟨rfl, rfl, hw⟩⟩
  · have hi' : i < 32 := (List.getElem?_eq_some_iff.1 hi).1
    have hw := shl_one hi'
    refine walk none0 ?_
    exact ⟨kA, 2 ^ i, true, by rw [hw], .inr ⟨i, hi', rfl, rfl, hi, hlo⟩⟩
/-! ## the bits of names -/
def ixOf (s : Txt) : List Txt → Nat → Option Nat
  | [], _ => none
  | x :: r, i => if x = s then some i else ixOf s r (i + 1)
theorem ixOf_none {s : Txt} : ∀ {l : List Txt} {k : Nat}, ixOf s l k = none → s ∉ l
  | [], k, _ => by simp
  | x :: r, k, h => by
    unfold ixOf at h
    split at h
    · cases h
    · rename_i hx
      intro hm
      rcases List.mem_cons.1 hm with rfl | hm
      · exact hx rfl
      · exact ixOf_none h hm
theorem ixOf_some {s : Txt} : ∀ {l : List Txt} {k i : Nat}, ixOf s l k = some i → ∃ j, i = k + j ∧ l[j]? = some s ∧ ∀ (n : Nat) (y : Txt), n < j → l[n]? = some y → y ≠ s
  | [], k, i, h => by cases h
  | x :: r, k, i, h => by
    unfold ixOf at h
    split at h
    · rename_i hx
      cases h
      exact ⟨0, rfl, by simp [hx], fun n y hn => by omega⟩
    · rename_i hx
      obtain ⟨j, rfl, h1, h2⟩ := ixOf_some h
      refine ⟨j + 1, by omega, by simpa using h1, fun n y hn hy => ?_⟩
      cases n with
      | zero => simp at hy; subst hy; exact hx
      | succ n => exact h2 n y (by omega) (by simpa using hy)
def bitOf (s : Txt) : Option (BitVec 32) := (ixOf s NM 0).map fun i => BitVec.ofNat 32 (2 ^ i)
theorem bitOf_nameP (s : Txt) : nameP s ((bitOf s).getD 0).toNat (bitOf s).isSome := by
  unfold bitOf
  cases h : ixOf s NM 0 with
  | none => exact .inl ⟨rfl, rfl, ixOf_none h⟩
  | some i =>
    obtain ⟨j, rfl, h1, h2⟩ := ixOf_some h
    have hj : j < 32 := by have := (List.getElem?_eq_some_iff.1 h1).1; rw [nm_len] at this; exact this
    refine .inr ⟨j, hj, ?_, rfl, h1, h2⟩
    have : 2 ^ j < 2 ^ 32 := Nat.pow_lt_pow_right (by omega) hj
    simp
    omega
theorem bitOf_of {s : Txt} {n : Nat} {ok : Bool} (h : nameP s n ok) : n = ((bitOf s).getD 0).toNat ∧ ok = (bitOf s).isSome := nameP_one h (bitOf_nameP s)
theorem bitB_ok {H : Heap} (hL : Lain S15 H) (s : Txt) : Cl Tryd.prog pr15 30 [.str s] H fun r H' => Keep H H' ∧ r = .tuple [.int .u32 ((bitOf s).getD 0).toNat, .bool (bitOf s).isSome] :=
  (bit_ok hL s).mono fun v H1 _ ⟨kA, n, ok, e, h⟩ => by
    obtain ⟨rfl, rfl⟩ := bitOf_of h
    exact ⟨kA, e⟩
def orAll : BitVec 32 → List Txt → Option (BitVec 32)
  | a, [] => some a
  | a, x :: r => match bitOf x with
    | none => none
    | some b => orAll (a ||| b) r
/-! ## the iterator -/
/-- The iterator over a text's pieces, and what it holds. -/
def SeqV (s : Txt) (H H' : Heap) (v : AV) : Prop := Keep H H' ∧ ∃ b1 b2 b3 t1 t2 t3 m1 m2 m3, v = .func (.func 36) [] [.ptr (some (b1, 0)), .ptr (some (b2, 0)), .ptr (some (b3, 0))] ∧ H.next ≤ b1 ∧ H.next ≤ b2 ∧ H.next ≤ b3 ∧ b1 < H'.next ∧ b2 < H'.next ∧ b3 < H'.next ∧ b1 ≠ b2 ∧ b1 ≠ b3 ∧ b2 ≠ b3 ∧
  H'.get b1 = some (.cells [.str [44]] t1 true m1) ∧ H'.get b2 = some (.cells [.str s] t2 true m2) ∧ H'.get b3 = some (.cells [.int .i64 0] t3 true m3)
theorem seq41_ok (s : Txt) (H : Heap) : Cl Tryd.prog pr15 29 [.str s, .str [44], .int .i64 0] H fun r H' => SeqV s H H' r := by
  refine Cl.enter Tryd.func29 rfl rfl Tryd.ntmps29 (by simp) ?_
  refine walk none0 ?_
  refine ⟨((Upd.rfl.push _).push _).push _, _, _, _, 9, 9, 3, false, false, false, rfl, by omega, by omega, by omega, by simp, by simp; omega, by simp, by omega, by omega, by omega, ?_, ?_, ?_⟩ <;> simp (disch := omega) [ineg]
theorem seq_ok (s : Txt) (H : Heap) : Cl Tryd.prog pr15 21 [.str s, .str [44]] H fun r H' => SeqV s H H' r := by
  refine Cl.enter Tryd.func21 rfl rfl Tryd.ntmps21 (by simp) ?_
  refine walk none0 ?_
  refine (seq41_ok s H).mono fun v H1 _ h => ?_
  refine walk none0 ?_
  exact h
theorem split_prim : pr15 (Tryd.prog.funcs.size + 36) = some splitP := by
  have : Tryd.prog.funcs.size + 36 = 118 := by kernel_rfl
  rw [this]
  rfl
theorem split_ok {s : Txt} {H H' : Heap} {lb : List AV} (h : SeqV s H H' (.func (.func 36) [] lb)) (hs : s.length ≤ 1000000) : Cl Tryd.prog pr15 (Tryd.prog.funcs.size + 36) (AV.ask :: lb) H' fun v H2 => v = .tuple (strs (splitB 44 s)) ∧ Keep H H2 := by
  obtain ⟨k, b1, b2, b3, t1, t2, t3, m1, m2, m3, e, a1, a2, a3, l1, l2, l3, n12, n13, n23, h1, h2, h3⟩ := h
  injection e with _ _ e
  subst e
  refine Cl.prim (g := splitP) split_prim (v := .tuple (strs (splitB 44 s))) (H' := ((H'.set b1 .dead).set b2 .dead).set b3 .dead) ?_ ⟨rfl, ?_⟩
  · unfold AV.ask splitP
    simp only [h1, h2, h3]
    rw [if_pos ⟨n12, n13, n23, hs⟩]
    rfl
  · exact ((k.set _ l1 (by omega)).set _ (by simp; omega) (by omega)).set _ (by simp; omega) (by omega)
end Go.Abs

/- Chapter 15: strings.Split at one byte, walked. -/
namespace Go.Abs
open Go.Proofs
set_option maxRecDepth 100000
set_option linter.unusedVariables false
set_option linter.unusedSimpArgs false

theorem splitB_count (c : UInt8) : ∀ s, (splitB c s).length = s.count c + 1
  | [] => rfl
  | b :: r => by
    have ih := splitB_count c r
    unfold splitB
    by_cases h : b = c
    · subst h; simp [ih]
    · rw [if_neg h, List.count_cons_of_ne h]
      split
      · rename_i x t e; rw [e] at ih; simpa using ih
      · rename_i e; rw [e] at ih; simp at ih
theorem count48_ok (s : Txt) (c : UInt8) (H : Heap) : Cl Tryd.prog pr15 48 [.str s, .int .u8 c.toNat] H fun v H' => v = .int .i64 (s.count c : Nat) ∧ H' = H := by
  refine Cl.prim (v := .int .i64 (s.count c : Nat)) (H' := H) (g := fun args H => match countAV args with | some v => some (v, H) | none => none) rfl ?_ ⟨rfl, rfl⟩
  simp [countAV, Lib.countByte]
theorem count_ok (s : Txt) (c : UInt8) (H : Heap) : Cl Tryd.prog pr15 42 [.str s, .str [c]] H fun v H' => v = .int .i64 (s.count c : Nat) ∧ H' = H := by
  have hl : ([c] : List UInt8).length = 1 := rfl
  have h0 : ([c] : List UInt8)[0]? = some c := rfl
  generalize ([c] : List UInt8) = p at *
  refine Cl.enter Tryd.func42 rfl rfl Tryd.ntmps42 (by simp) ?_
  refine walk (both hl h0) ?_
  refine (count48_ok s c H).mono fun v H1 _ ⟨e1, e2⟩ => ?_
  subst e1; subst e2
  refine walk none0 ?_
  exact ⟨rfl, rfl⟩
theorem ib_ok' (s : Txt) (c : UInt8) (H : Heap) : Cl Tryd.prog pr15 53 [.str s, .int .u8 c.toNat] H fun v H' => v = .int .i64 (Lib.indexByte s c) ∧ H' = H := by
  refine Cl.prim (v := .int .i64 (Lib.indexByte s c)) (H' := H) (g := fun args H => match ibAV args with | some v => some (v, H) | none => none) rfl ?_ ⟨rfl, rfl⟩
  simp [ibAV]
theorem ib49_ok' (s : List UInt8) (c : UInt8) (H : Heap) : Cl Tryd.prog pr15 49 [.str s, .int .u8 c.toNat] H fun v H' => v = .int .i64 (Lib.indexByte s c) ∧ H' = H := by
  refine Cl.enter Tryd.func49 rfl rfl Tryd.ntmps49 (by simp) ?_
  refine walk none0 ?_
  refine (ib_ok' s c H).mono fun v H1 _ ⟨e1, e2⟩ => ?_
  subst e1; subst e2
  refine walk none0 ?_
  exact ⟨rfl, rfl⟩
theorem index44_ok' (s : List UInt8) (c : UInt8) (H : Heap) : Cl Tryd.prog pr15 44 [.str s, .str [c]] H fun v H' => v = .int .i64 (Lib.indexByte s c) ∧ H' = H := by
  have hl : ([c] : List UInt8).length = 1 := rfl
  have h0 : ([c] : List UInt8)[0]? = some c := rfl
  have he : s = [c] → Lib.indexByte s c = 0 := by rintro rfl; simp [Lib.indexByte]
  generalize ([c] : List UInt8) = p at *
  have hne : ¬ p = [] := by rintro rfl; simp at hl
  refine Cl.enter Tryd.func44 rfl rfl Tryd.ntmps44 (by simp) ?_
  refine walk hl ?_
  by_cases h : p = s
  · subst h
    refine walk hl ?_
    exact ⟨by rw [he rfl], rfl⟩
  · refine walk (both h (both hl h0)) ?_
    refine (ib49_ok' s c H).mono fun v H1 _ ⟨e1, e2⟩ => ?_
    subst e1; subst e2
    refine walk none0 ?_
    exact ⟨rfl, rfl⟩
theorem idx38_ok' (s : List UInt8) (c : UInt8) (H : Heap) : Cl Tryd.prog pr15 38 [.str s, .str [c]] H fun v H' => v = .int .i64 (Lib.indexByte s c) ∧ H' = H := by
  refine Cl.enter Tryd.func38 rfl rfl Tryd.ntmps38 (by simp) ?_
  refine walk none0 ?_
  refine (index44_ok' s c H).mono fun v H1 _ ⟨e1, e2⟩ => ?_
  subst e1; subst e2
  refine walk none0 ?_
  exact ⟨rfl, rfl⟩
theorem zeros_strs : ∀ n, zeros [.str []] n = strs (List.replicate n [])
  | 0 => rfl
  | n + 1 => by rw [List.replicate_succ]; simp only [zeros, strs, List.map_cons, List.cons_append, List.nil_append]; rw [zeros_strs n]; rfl
theorem makeStrs (n : Nat) (hn : n ≤ 1000001) (H : Heap) : makeSliceR Tryd.prog 40 (some (.int .i64 n)) (some (.int .i64 n)) H = some (.slice (some (H.next, 0)) n n none, H.push (.cells (strs (List.replicate n [])) 9 true false)) := by
  have h : elemF Tryd.prog 40 = some (9, 16, 1, [.str []]) := by kernel_rfl
  rw [makeSliceR_eq h (by omega)]
  rw [← zeros_strs, Int.toNat_natCast]
theorem strs_set (l : List Txt) (i : Nat) (x : Txt) : (strs l).set i (.str x) = strs (l.set i x) := by unfold strs; rw [List.map_set]
theorem fill_set (d : List Txt) (m : Nat) (x : Txt) : (d ++ List.replicate (m + 1) []).set d.length x = (d ++ [x]) ++ List.replicate m [] := by
  rw [List.set_append_right _ _ (Nat.le_refl _), Nat.sub_self, List.replicate_succ, List.set_cons_zero, List.append_assoc]
  rfl
theorem gen_ok (s : Txt) (c : UInt8) (hs : s.length ≤ 1000000) (H : Heap) : Cl Tryd.prog pr15 34 [.str s, .str [c], .int .i64 0, .int .i64 (-1)] H fun r H' => Keep H H' ∧ Ss H' r (splitB c s) := by
  have hl : ([c] : List UInt8).length = 1 := rfl
  have hcp : ([c] : List UInt8) = [c] := rfl
  generalize hp : ([c] : List UInt8) = p at hl hcp ⊢
  have hne : ¬ p = [] := by rintro rfl; simp at hl
  refine Cl.enter Tryd.func34 rfl rfl Tryd.ntmps34 (by simp) ?_
  refine walk (both hne hl) ?_
  rw [← hp]
  refine (count_ok s c H).mono fun v H1 _ ⟨e1, e2⟩ => ?_
  subst e1; subst e2
  rw [hp]
  have hcl : s.count c ≤ s.length := List.count_le_length
  have hsl := splitB_count c s
  have hmin : min ((s.count c : Int) + 1) ((s.length : Int) + 1) = (s.count c : Int) + 1 := by omega
  have hmk : makeSliceR Tryd.prog 40 (some (.int .i64 ((s.count c : Int) + 1))) (some (.int .i64 ((s.count c : Int) + 1))) H1 = some (.slice (some (H1.next, 0)) (s.count c + 1) (s.count c + 1) none, H1.push (.cells (strs (List.replicate (s.count c + 1) [])) 9 true false)) := makeStrs (s.count c + 1) (by omega) H1
  have kA : Keep H1 (H1.push (.cells (strs (List.replicate (s.count c + 1) [])) 9 true false)) := Upd.rfl.push _
  have gA : (H1.push (.cells (strs (List.replicate (s.count c + 1) [])) 9 true false)).get H1.next = some (.cells (strs (List.replicate (s.count c + 1) [])) 9 true false) := by simp
  have nA : (H1.push (.cells (strs (List.replicate (s.count c + 1) [])) 9 true false)).next = H1.next + 1 := by simp
  refine walk hmin ?_
  generalize s.count c = n at *
  refine walk hmk ?_
  generalize H1.push (.cells (strs (List.replicate (n + 1) [])) 9 true false) = H2 at *
  refine Wq.loop (fun m e H' => ∃ (d : List Txt) (cur : Txt), d.length ≤ n ∧ m = n - d.length ∧ cur.length ≤ 1000000 ∧ splitB c s = d ++ splitB c cur ∧ Keep H1 H' ∧ H1.next < H'.next ∧ H'.get H1.next = some (.cells (strs (d ++ List.replicate (n + 1 - d.length) [])) 9 true false) ∧
    e 0 = .str cur ∧ e 1 = .str p ∧ e 2 = .int .i64 0 ∧ e 3 = .int .i64 n ∧ e 9 = .slice (some (H1.next, 0)) (n + 1) (n + 1) none ∧ e 10 = .int .i64 d.length) n ?_ ?_
  · exact ⟨[], s, by simp, by simp, hs, by simp, kA, by omega, by simpa using gA, by simp, by simp, by simp, by simp, by simp, by simp⟩
  · rintro m e H' ⟨d, cur, hi, rfl, hcur, hsp, kB, nB, gB, g0, g1, g2, g3, g9, g10⟩
    have hlenc : (strs (d ++ List.replicate (n + 1 - d.length) [])).length = n + 1 := by simp; omega
    have hlc := congrArg List.length hsp
    rw [List.length_append, hsl] at hlc
    have hi1 : d.length < n + 1 := by omega
    by_cases hlt : d.length < n
    · have hge := idx_ge c cur
      have hix : 0 ≤ Lib.indexByte cur c := by
        rcases Int.lt_or_le (Lib.indexByte cur c) 0 with h | h
        · rw [splitB_none h] at hlc; simp at hlc; omega
        · exact h
      obtain ⟨k, hk⟩ : ∃ k : Nat, Lib.indexByte cur c = k := ⟨(Lib.indexByte cur c).toNat, by omega⟩
      have hkl := idx_lt c cur
      have hsm := splitB_some hk
      have hkl' : k < cur.length := by omega
      have hk1 : k ≤ cur.length := by omega
      have hk2 : k + 1 ≤ cur.length := by omega
      have hk3 : ((k : Int) < 0) = False := eq_false (by omega)
      refine walk (both g0 (both g1 (both g2 (both g3 (both g9 (both g10 hlt)))))) ?_
      rw [← hp]
      refine (idx38_ok' cur c H').mono fun v H4 _ ⟨e1, e2⟩ => ?_
      subst e1; subst e2
      rw [hp, hk]
      refine walk (both g0 (both g1 (both g2 (both g3 (both g9 (both g10 (both hlt (both gB (both hlenc (both hi1 (both hk1 (both hk2 (both hk3 hl))))))))))))) ?_
      rw [strs_set]
      have hfs := fill_set d (n - d.length) (cur.take k)
      rw [show n - d.length + 1 = n + 1 - d.length by omega] at hfs
      rw [hfs]
      refine Roundq.normal (n - (d.length + 1)) (by omega) ⟨d ++ [cur.take k], cur.drop (k + 1), by simp; omega, by simp, by simp; omega, ?_, kB.set _ (by omega) (by omega), by simp; omega, ?_, by simp, by simp [g1], by simp [g2], by simp [g3], by simp [g9], by simp⟩
      · rw [hsp, hsm, List.append_assoc]; rfl
      · simp only [Heap.get_set, if_true]
        rw [List.length_append, show n + 1 - (d.length + [cur.take k].length) = n - d.length by simp only [List.length_cons, List.length_nil]; omega]
    · have hix : splitB c cur = [cur] := by
        have h1 : (splitB c cur).length = 1 := by omega
        rcases Int.lt_or_le (Lib.indexByte cur c) 0 with h | h
        · exact splitB_none h
        · obtain ⟨k, hk⟩ : ∃ k : Nat, Lib.indexByte cur c = k := ⟨(Lib.indexByte cur c).toNat, by omega⟩
          rw [splitB_some hk] at h1
          have := splitB_ne c (cur.drop (k + 1))
          simp at h1
          exact absurd h1 this
      have hlast := hix
      have hltI : ((d.length : Int) < n) = False := eq_false (by omega)
      refine walk (both g0 (both g1 (both g2 (both g3 (both g9 (both g10 (both hlt hltI))))))) ?_
      refine walk (both g0 (both g1 (both g2 (both g3 (both g9 (both g10 (both gB (both hlenc hi1)))))))) ?_
      rw [strs_set]
      have hfs := fill_set d (n - d.length) cur
      rw [show n - d.length + 1 = n + 1 - d.length by omega] at hfs
      rw [hfs]
      refine ⟨kB.set _ (by omega) (by omega), ?_⟩
      rw [hsp, hlast]
      unfold Ss Sl
      refine ⟨by simp, .inr ⟨H1.next, 0, n + 1, none, by simp, by simp <;> omega, .inl rfl, fun _ => ⟨by simp <;> omega, strs (d ++ [cur] ++ List.replicate (n - d.length) []), 9, true, false, by simp, by simp <;> omega, ?_⟩⟩⟩
      rw [List.drop_zero, ← strs_app (d ++ [cur]) _, List.take_append_of_le_length (by simp), List.take_of_length_le (by simp)]
end Go.Abs

/- Chapter 15: the table's lines. -/
namespace Go.Abs
open Go.Proofs
set_option maxRecDepth 100000
set_option linter.unusedVariables false
set_option linter.unusedSimpArgs false

def TBL : Txt := [101, 120, 105, 116, 32, 48, 32, 101, 10, 102, 111, 114, 107, 32, 48, 32, 46, 10, 114, 101, 97, 100, 32, 48, 32, 102, 110, 32, 114, 101, 97, 100, 10, 119, 114, 105, 116, 101, 32, 48, 32, 102, 66, 32, 119, 114, 105, 116, 101, 10, 111, 112, 101, 110, 32, 49, 32, 103, 83, 10, 99, 108, 111, 115, 101, 32, 48, 32, 102, 10, 119, 97, 105, 116, 32, 49, 32, 120, 117, 10, 108, 105, 110, 107, 32, 49, 32, 83, 84, 10, 117, 110, 108, 105, 110, 107, 32, 49, 32, 83, 10, 99, 104, 100, 105, 114, 32, 49, 32, 83, 10, 102, 99, 104, 100, 105, 114, 32, 49, 32, 102, 32, 99, 104, 100, 105, 114, 10, 109, 107, 100, 105, 114, 32, 49, 32, 83, 10, 114, 109, 100, 105, 114, 32, 49, 32, 83, 10, 103, 101, 116, 112, 105, 100, 32, 48, 32, 46, 10, 103, 101, 116, 112, 112, 105, 100, 32, 48, 32, 46, 10, 107, 105, 108, 108, 32, 49, 32, 120, 115, 10, 100, 117, 112, 32, 48, 32, 102, 10, 100, 117, 112, 50, 32, 48, 32, 102, 120, 10, 112, 105, 112, 101, 32, 48, 32, 107, 10, 102, 99, 110, 116, 108, 32, 48, 32, 102, 120, 120, 10, 105, 111, 99, 116, 108, 32, 48, 32, 102, 120, 120, 32, 105, 111, 99, 116, 108, 10, 115, 121, 109, 108, 105, 110, 107, 32, 49, 32, 89, 84, 10, 114, 101, 97, 100, 108, 105, 110, 107, 32, 49, 32, 83, 10, 114, 101, 110, 97, 109, 101, 32, 49, 32, 83, 84, 10, 108, 115, 101, 101, 107, 32, 48, 32, 102, 105, 119, 10, 102, 116, 114, 117, 110, 99, 97, 116, 101, 32, 48, 32, 102, 111, 32, 116, 114, 117, 110, 99, 97, 116, 101, 10, 102, 115, 116, 97, 116, 32, 48, 32, 102, 32, 115, 116, 97, 116, 10, 115, 116, 97, 116, 32, 49, 32, 117, 83, 10, 102, 115, 121, 110, 99, 32, 48, 32, 102, 32, 102, 115, 121, 110, 99, 10, 112, 114, 101, 97, 100, 32, 48, 32, 102, 110, 111, 32, 114, 101, 97, 100, 44, 115, 101, 101, 107, 10, 112, 119, 114, 105, 116, 101, 32, 48, 32, 102, 111, 66, 32, 119, 114, 105, 116, 101, 44, 115, 101, 101, 107, 10, 103, 101, 116, 100, 101, 110, 116, 115, 32, 48, 32, 102, 99, 32, 114, 101, 97, 100, 100, 105, 114, 10, 111, 112, 101, 110, 97, 116, 32, 50, 32, 100, 103, 83, 10, 109, 107, 100, 105, 114, 97, 116, 32, 50, 32, 100, 83, 32, 108, 111, 111, 107, 117, 112, 44, 109, 107, 100, 105, 114, 10, 117, 110, 108, 105, 110, 107, 97, 116, 32, 50, 32, 100, 117, 83, 32, 108, 111, 111, 107, 117, 112, 44, 117, 110, 108, 105, 110, 107, 10, 114, 101, 110, 97, 109, 101, 97, 116, 32, 50, 32, 100, 100, 83, 84, 32, 108, 111, 111, 107, 117, 112, 44, 114, 101, 110, 97, 109, 101, 102, 114, 111, 109, 32, 108, 111, 111, 107, 117, 112, 44, 114, 101, 110, 97, 109, 101, 116, 111, 10, 108, 105, 110, 107, 97, 116, 32, 50, 32, 100, 100, 117, 83, 84, 32, 108, 111, 111, 107, 117, 112, 44, 108, 105, 110, 107, 102, 114, 111, 109, 32, 108, 111, 111, 107, 117, 112, 44, 108, 105, 110, 107, 116, 111, 10, 115, 121, 109, 108, 105, 110, 107, 97, 116, 32, 50, 32, 100, 89, 84, 32, 108, 111, 111, 107, 117, 112, 44, 115, 121, 109, 108, 105, 110, 107, 10, 114, 101, 97, 100, 108, 105, 110, 107, 97, 116, 32, 50, 32, 100, 83, 32, 108, 111, 111, 107, 117, 112, 44, 114, 101, 97, 100, 108, 105, 110, 107, 10, 102, 115, 116, 97, 116, 97, 116, 32, 50, 32, 100, 117, 83, 32, 108, 111, 111, 107, 117, 112, 44, 115, 116, 97, 116, 10, 115, 111, 99, 107, 101, 116, 32, 48, 32, 107, 10, 115, 111, 99, 107, 101, 116, 112, 97, 105, 114, 32, 48, 32, 107, 10, 98, 105, 110, 100, 32, 49, 32, 102, 83, 32, 98, 105, 110, 100, 10, 98, 105, 110, 100, 97, 116, 32, 50, 32, 100, 102, 83, 32, 108, 111, 111, 107, 117, 112, 44, 98, 105, 110, 100, 97, 116, 32, 98, 105, 110, 100, 10, 108, 105, 115, 116, 101, 110, 32, 48, 32, 102, 98, 32, 108, 105, 115, 116, 101, 110, 10, 99, 111, 110, 110, 101, 99, 116, 32, 49, 32, 102, 83, 32, 99, 111, 110, 110, 101, 99, 116, 10, 99, 111, 110, 110, 101, 99, 116, 97, 116, 32, 50, 32, 100, 102, 83, 32, 108, 111, 111, 107, 117, 112, 44, 99, 111, 110, 110, 101, 99, 116, 97, 116, 32, 99, 111, 110, 110, 101, 99, 116, 10, 97, 99, 99, 101, 112, 116, 32, 48, 32, 102, 107, 32, 97, 99, 99, 101, 112, 116, 10, 115, 104, 117, 116, 100, 111, 119, 110, 32, 48, 32, 102, 104, 32, 115, 104, 117, 116, 100, 111, 119, 110, 10, 115, 101, 110, 100, 32, 48, 32, 102, 66, 76, 32, 119, 114, 105, 116, 101, 10, 114, 101, 99, 118, 32, 48, 32, 102, 110, 109, 32, 114, 101, 97, 100, 10, 112, 111, 108, 108, 32, 48, 32, 117, 80, 10, 112, 100, 102, 111, 114, 107, 32, 48, 32, 46, 10, 112, 100, 103, 101, 116, 112, 105, 100, 32, 48, 32, 102, 32, 112, 100, 103, 101, 116, 112, 105, 100, 10, 112, 100, 107, 105, 108, 108, 32, 48, 32, 102, 115, 32, 112, 100, 107, 105, 108, 108, 10, 112, 100, 119, 97, 105, 116, 32, 48, 32, 102, 117, 32, 112, 100, 119, 97, 105, 116, 10, 99, 97, 112, 95, 101, 110, 116, 101, 114, 32, 48, 32, 46, 10, 99, 97, 112, 95, 103, 101, 116, 109, 111, 100, 101, 32, 48, 32, 46, 10, 99, 97, 112, 95, 114, 105, 103, 104, 116, 115, 95, 108, 105, 109, 105, 116, 32, 48, 32, 102, 82, 10, 99, 97, 112, 95, 114, 105, 103, 104, 116, 115, 95, 103, 101, 116, 32, 48, 32, 102, 10, 99, 97, 112, 95, 105, 111, 99, 116, 108, 115, 95, 108, 105, 109, 105, 116, 32, 48, 32, 102, 73, 10, 99, 97, 112, 95, 105, 111, 99, 116, 108, 115, 95, 103, 101, 116, 32, 48, 32, 102, 10, 99, 97, 112, 95, 102, 99, 110, 116, 108, 115, 95, 108, 105, 109, 105, 116, 32, 48, 32, 102, 120, 10, 99, 97, 112, 95, 102, 99, 110, 116, 108, 115, 95, 103, 101, 116, 32, 48, 32, 102]
/-- Each line's words. -/
def FT : List (List Txt) := [
  [[101, 120, 105, 116], [48], [101]],
  [[102, 111, 114, 107], [48], [46]],
  [[114, 101, 97, 100], [48], [102, 110], [114, 101, 97, 100]],
  [[119, 114, 105, 116, 101], [48], [102, 66], [119, 114, 105, 116, 101]],
  [[111, 112, 101, 110], [49], [103, 83]],
  [[99, 108, 111, 115, 101], [48], [102]],
  [[119, 97, 105, 116], [49], [120, 117]],
  [[108, 105, 110, 107], [49], [83, 84]],
  [[117, 110, 108, 105, 110, 107], [49], [83]],
  [[99, 104, 100, 105, 114], [49], [83]],
  [[102, 99, 104, 100, 105, 114], [49], [102], [99, 104, 100, 105, 114]],
  [[109, 107, 100, 105, 114], [49], [83]],
  [[114, 109, 100, 105, 114], [49], [83]],
  [[103, 101, 116, 112, 105, 100], [48], [46]],
  [[103, 101, 116, 112, 112, 105, 100], [48], [46]],
  [[107, 105, 108, 108], [49], [120, 115]],
  [[100, 117, 112], [48], [102]],
  [[100, 117, 112, 50], [48], [102, 120]],
  [[112, 105, 112, 101], [48], [107]],
  [[102, 99, 110, 116, 108], [48], [102, 120, 120]],
  [[105, 111, 99, 116, 108], [48], [102, 120, 120], [105, 111, 99, 116, 108]],
  [[115, 121, 109, 108, 105, 110, 107], [49], [89, 84]],
  [[114, 101, 97, 100, 108, 105, 110, 107], [49], [83]],
  [[114, 101, 110, 97, 109, 101], [49], [83, 84]],
  [[108, 115, 101, 101, 107], [48], [102, 105, 119]],
  [[102, 116, 114, 117, 110, 99, 97, 116, 101], [48], [102, 111], [116, 114, 117, 110, 99, 97, 116, 101]],
  [[102, 115, 116, 97, 116], [48], [102], [115, 116, 97, 116]],
  [[115, 116, 97, 116], [49], [117, 83]],
  [[102, 115, 121, 110, 99], [48], [102], [102, 115, 121, 110, 99]],
  [[112, 114, 101, 97, 100], [48], [102, 110, 111], [114, 101, 97, 100, 44, 115, 101, 101, 107]],
  [[112, 119, 114, 105, 116, 101], [48], [102, 111, 66], [119, 114, 105, 116, 101, 44, 115, 101, 101, 107]],
  [[103, 101, 116, 100, 101, 110, 116, 115], [48], [102, 99], [114, 101, 97, 100, 100, 105, 114]],
  [[111, 112, 101, 110, 97, 116], [50], [100, 103, 83]],
  [[109, 107, 100, 105, 114, 97, 116], [50], [100, 83], [108, 111, 111, 107, 117, 112, 44, 109, 107, 100, 105, 114]],
  [[117, 110, 108, 105, 110, 107, 97, 116], [50], [100, 117, 83], [108, 111, 111, 107, 117, 112, 44, 117, 110, 108, 105, 110, 107]],
  [[114, 101, 110, 97, 109, 101, 97, 116], [50], [100, 100, 83, 84], [108, 111, 111, 107, 117, 112, 44, 114, 101, 110, 97, 109, 101, 102, 114, 111, 109], [108, 111, 111, 107, 117, 112, 44, 114, 101, 110, 97, 109, 101, 116, 111]],
  [[108, 105, 110, 107, 97, 116], [50], [100, 100, 117, 83, 84], [108, 111, 111, 107, 117, 112, 44, 108, 105, 110, 107, 102, 114, 111, 109], [108, 111, 111, 107, 117, 112, 44, 108, 105, 110, 107, 116, 111]],
  [[115, 121, 109, 108, 105, 110, 107, 97, 116], [50], [100, 89, 84], [108, 111, 111, 107, 117, 112, 44, 115, 121, 109, 108, 105, 110, 107]],
  [[114, 101, 97, 100, 108, 105, 110, 107, 97, 116], [50], [100, 83], [108, 111, 111, 107, 117, 112, 44, 114, 101, 97, 100, 108, 105, 110, 107]],
  [[102, 115, 116, 97, 116, 97, 116], [50], [100, 117, 83], [108, 111, 111, 107, 117, 112, 44, 115, 116, 97, 116]],
  [[115, 111, 99, 107, 101, 116], [48], [107]],
  [[115, 111, 99, 107, 101, 116, 112, 97, 105, 114], [48], [107]],
  [[98, 105, 110, 100], [49], [102, 83], [98, 105, 110, 100]],
  [[98, 105, 110, 100, 97, 116], [50], [100, 102, 83], [108, 111, 111, 107, 117, 112, 44, 98, 105, 110, 100, 97, 116], [98, 105, 110, 100]],
  [[108, 105, 115, 116, 101, 110], [48], [102, 98], [108, 105, 115, 116, 101, 110]],
  [[99, 111, 110, 110, 101, 99, 116], [49], [102, 83], [99, 111, 110, 110, 101, 99, 116]],
  [[99, 111, 110, 110, 101, 99, 116, 97, 116], [50], [100, 102, 83], [108, 111, 111, 107, 117, 112, 44, 99, 111, 110, 110, 101, 99, 116, 97, 116], [99, 111, 110, 110, 101, 99, 116]],
  [[97, 99, 99, 101, 112, 116], [48], [102, 107], [97, 99, 99, 101, 112, 116]],
  [[115, 104, 117, 116, 100, 111, 119, 110], [48], [102, 104], [115, 104, 117, 116, 100, 111, 119, 110]],
  [[115, 101, 110, 100], [48], [102, 66, 76], [119, 114, 105, 116, 101]],
  [[114, 101, 99, 118], [48], [102, 110, 109], [114, 101, 97, 100]],
  [[112, 111, 108, 108], [48], [117, 80]],
  [[112, 100, 102, 111, 114, 107], [48], [46]],
  [[112, 100, 103, 101, 116, 112, 105, 100], [48], [102], [112, 100, 103, 101, 116, 112, 105, 100]],
  [[112, 100, 107, 105, 108, 108], [48], [102, 115], [112, 100, 107, 105, 108, 108]],
  [[112, 100, 119, 97, 105, 116], [48], [102, 117], [112, 100, 119, 97, 105, 116]],
  [[99, 97, 112, 95, 101, 110, 116, 101, 114], [48], [46]],
  [[99, 97, 112, 95, 103, 101, 116, 109, 111, 100, 101], [48], [46]],
  [[99, 97, 112, 95, 114, 105, 103, 104, 116, 115, 95, 108, 105, 109, 105, 116], [48], [102, 82]],
  [[99, 97, 112, 95, 114, 105, 103, 104, 116, 115, 95, 103, 101, 116], [48], [102]],
  [[99, 97, 112, 95, 105, 111, 99, 116, 108, 115, 95, 108, 105, 109, 105, 116], [48], [102, 73]],
  [[99, 97, 112, 95, 105, 111, 99, 116, 108, 115, 95, 103, 101, 116], [48], [102]],
  [[99, 97, 112, 95, 102, 99, 110, 116, 108, 115, 95, 108, 105, 109, 105, 116], [48], [102, 120]],
  [[99, 97, 112, 95, 102, 99, 110, 116, 108, 115, 95, 103, 101, 116], [48], [102]]]
theorem tbl_split : (splitB 10 TBL).map Lib.fields = FT := by
  have : ((splitB 10 TBL).map Lib.fields == FT) = true := by kernel_rfl
  exact beq_iff_eq.1 this
theorem tbl_len : (splitB 10 TBL).length = 64 := by
  have : decide ((splitB 10 TBL).length = 64) = true := by kernel_rfl
  exact of_decide_eq_true this
theorem tbl_size : TBL.length ≤ 1000000 := of_decide_eq_true (by kernel_rfl)
theorem tbl_low : ∀ x ∈ splitB 10 TBL, x.length < 4294967281 ∧ x.all (fun b => decide (b.toNat < 128)) = true := by
  have : (splitB 10 TBL).all (fun x => decide (x.length < 4294967281) && x.all (fun b => decide (b.toNat < 128))) = true := by kernel_rfl
  intro x hx
  have := List.all_eq_true.1 this x hx
  simpa using this
theorem Split_ok (s : Txt) (c : UInt8) (hs : s.length ≤ 1000000) (H : Heap) : Cl Tryd.prog pr15 27 [.str s, .str [c]] H fun r H' => Keep H H' ∧ Ss H' r (splitB c s) := by
  refine Cl.enter Tryd.func27 rfl rfl Tryd.ntmps27 (by simp) ?_
  refine walk none0 ?_
  refine (gen_ok s c hs H).mono fun v H1 _ h => ?_
  refine walk none0 ?_
  exact h
theorem fieldsN_no (k : Int) (hk : k < 1 ∨ 64 < k) (H : Heap) : Cl Tryd.prog pr15 19 [.int .i64 k] H fun r H' => r = .slice none 0 0 none ∧ H' = H := by
  refine Cl.enter Tryd.func19 rfl rfl Tryd.ntmps19 (by simp) ?_
  rcases hk with h | h
  · refine walk h ?_
    exact ⟨rfl, rfl⟩
  · have h1 : ¬ k < 1 := by omega
    refine walk (both h h1) ?_
    exact ⟨rfl, rfl⟩
theorem fieldsN_ok (k : Nat) (hk : k < 64) {l : List Txt} (hl : FT[k]? = some l) {H : Heap} (hL : Lain S15 H) : Cl Tryd.prog pr15 19 [.int .i64 ((k : Int) + 1)] H fun r H' => Keep H H' ∧ Ss H' r l := by
  have ht := tbl_split
  have htl := tbl_len
  have hlow := tbl_low
  have hsp := Split_ok TBL 10 tbl_size
  refine Cl.enter Tryd.func19 rfl rfl Tryd.ntmps19 (by simp) ?_
  refine walk hk ?_
  refine Cl.mono (hsp H) fun v H1 _ ⟨kA, h⟩ => ?_
  generalize splitB 10 TBL = L at *
  obtain ⟨x, hx⟩ := get_lt' (l := L) (i := k) (by omega)
  have hxl : Lib.fields x = l := by
    have : (L.map Lib.fields)[k]? = some (Lib.fields x) := by rw [List.getElem?_map, hx]; rfl
    rw [ht, hl] at this
    exact (Option.some.inj this).symm
  obtain ⟨a, cap, ex, rfl, hc, hex⟩ := h.form
  obtain ⟨b, o, c, t, w, mk, rfl, _, hb1, hb2, hb3, hb4⟩ := str_at h hx
  have hkL : k < L.length := by omega
  refine walk (both hkL (both hb2 (both hb3 hb4))) ?_
  obtain ⟨w1, w2⟩ := hlow x (List.mem_of_getElem? hx)
  refine (fields_ok (lain_kept hL kA) w1 w2).mono fun v H2 _ ⟨kB, h2⟩ => ?_
  rw [hxl] at h2
  refine walk none0 ?_
  exact ⟨kA.then kB, h2⟩
end Go.Abs

/- Chapter 15: calls.Get, walked. -/
namespace Go.Abs
open Go.Proofs
set_option maxRecDepth 100000
set_option linter.unusedVariables false
set_option linter.unusedSimpArgs false

def trimD (s : Txt) : Txt := match s with
  | 46 :: r => r
  | _ => s
theorem trim_ok (s : Txt) (H : Heap) : Cl Tryd.prog pr15 20 [.str s, .str [46]] H fun r H' => r = .str (trimD s) ∧ H' = H := by
  have pre : Cl Tryd.prog pr15 35 [.str s, .str [46]] H fun r H' => r = .bool (decide (s.head? = some 46)) ∧ H' = H := by
    cases s with
    | nil =>
      refine Cl.enter Tryd.func35 rfl rfl Tryd.ntmps35 (by simp) ?_
      refine walk none0 ?_
      exact ⟨rfl, rfl⟩
    | cons x r =>
      have hl : 1 ≤ (x :: r).length := by simp
      have ht : (x :: r).take 1 = [x] := rfl
      have hh : (x :: r).head? = some x := rfl
      generalize x :: r = s at *
      have hlI : ¬ ((s.length : Int) < 1) := by omega
      refine Cl.enter Tryd.func35 rfl rfl Tryd.ntmps35 (by simp) ?_
      refine walk (both hl (both ht hlI)) ?_
      rw [hh]
      exact ⟨by by_cases hx : x = 46 <;> simp [hx], rfl⟩
  refine Cl.enter Tryd.func20 rfl rfl Tryd.ntmps20 (by simp) ?_
  refine walk none0 ?_
  refine Cl.mono (K := fun r H' => r = .str (trimD s) ∧ H' = H) ?_ fun v H1 _ ⟨e1, e2⟩ => ?_
  · refine Cl.enter Tryd.func28 rfl rfl Tryd.ntmps28 (by simp) ?_
    refine walk none0 ?_
    refine pre.mono fun v H1 _ ⟨e1, e2⟩ => ?_
    subst e1; subst e2
    cases s with
    | nil =>
      refine walk none0 ?_
      exact ⟨rfl, rfl⟩
    | cons x r =>
      by_cases hx : x = 46
      · subst hx
        have hl : 1 ≤ ((46 : UInt8) :: r).length := by simp
        have hdr : ((46 : UInt8) :: r).drop 1 = r := rfl
        have htd : trimD ((46 : UInt8) :: r) = r := rfl
        have hh : ((46 : UInt8) :: r).head? = some 46 := rfl
        rw [htd, hh]
        generalize (46 : UInt8) :: r = s at *
        refine walk (both hl hdr) ?_
        exact ⟨rfl, rfl⟩
      · have htd : trimD (x :: r) = x :: r := by
          unfold trimD
          split
          · rename_i r' e; injection e with e _; exact absurd e hx
          · rfl
        have hh : decide ((x :: r).head? = some 46) = false := by simp [hx]
        rw [htd, hh]
        refine walk none0 ?_
        exact ⟨rfl, rfl⟩
  · subst e1; subst e2
    refine walk none0 ?_
    exact ⟨rfl, rfl⟩
theorem bits32 : IntKind.u32.bits = 32 := rfl
theorem wrap32 {n : Nat} (h : n < 4294967296) : IntKind.u32.wrap (n : Int) = n := by simp [IntKind.wrap, IntKind.signed, IntKind.bits]; omega
theorem bv_lt (a : BitVec 32) : a.toNat < 4294967296 := a.isLt
theorem u32_or (a b : BitVec 32) : IntKind.u32.wrap ((a.toNat % 2 ^ IntKind.u32.bits ||| b.toNat % 2 ^ IntKind.u32.bits : Nat) : Int) = ((a ||| b).toNat : Nat) := by
  rw [bits32, Nat.mod_eq_of_lt a.isLt, Nat.mod_eq_of_lt b.isLt, ← BitVec.toNat_or]
  exact wrap32 (bv_lt _)
theorem Bit_ok {H : Heap} (hL : Lain S15 H) (s : Txt) : Cl Tryd.prog pr15 22 [.str s] H fun r H' => Keep H H' ∧ r = .tuple [.int .u32 ((bitOf s).getD 0).toNat, .bool (bitOf s).isSome] := by
  refine Cl.enter Tryd.func22 rfl rfl Tryd.ntmps22 (by simp) ?_
  refine walk none0 ?_
  refine (bitB_ok hL s).mono fun v H1 _ ⟨kA, e⟩ => ?_
  subst e
  refine walk none0 ?_
  exact ⟨kA, rfl⟩
structure PG (H2 H' : Heap) (bI i : Nat) (nm sd : Txt) (g : Int) (a b : BitVec 32) : Prop where
  keep : Keep H2 H'
  lt : H2.next < bI
  ltI : bI < H'.next
  gc : H'.get H2.next = some (.cells [.str nm, .str sd, .int .i64 g, .int .u32 a.toNat, .int .u32 b.toNat] 30 true false)
  gi : H'.get bI = some (.cells [.int .i64 i] 3 true false)
theorem PG.kept {H2 H' H3 : Heap} {bI i : Nat} {nm sd : Txt} {g : Int} {a b : BitVec 32} (h : PG H2 H' bI i nm sd g a b) (k : Keep H' H3) : PG H2 H3 bI i nm sd g a b :=
  have h1 := h.lt
  have h2 := h.ltI
  ⟨h.keep.then k, h1, Nat.lt_of_lt_of_le h2 k.next, (k.get (by omega)).trans h.gc, (k.get h2).trans h.gi⟩
theorem PG.set {H2 H' : Heap} {bI i : Nat} {nm sd : Txt} {g : Int} {a b : BitVec 32} (h : PG H2 H' bI i nm sd g a b) (c d : BitVec 32) : PG H2 (H'.set H2.next (.cells [.str nm, .str sd, .int .i64 g, .int .u32 c.toNat, .int .u32 d.toNat] 30 true false)) bI i nm sd g c d :=
  have h1 := h.lt
  have h2 := h.ltI
  ⟨h.keep.set _ (by omega) (by omega), h1, by simp; omega, by simp, (Heap.get_set_ne _ _ (by omega)).trans h.gi⟩
def needOf (x : Txt) : BitVec 32 := (splitB 44 x).foldl (fun a y => a ||| (bitOf y).getD 0) 0#32
def ndAt (rest : List Txt) (j i : Nat) : BitVec 32 := if j < i then needOf (rest.getD j []) else 0#32
theorem Get_ok (k : Nat) (hk : k < 64) {nm sh g : Txt} {d : UInt8} {rest : List Txt} (hl : FT[k]? = some (nm :: g :: sh :: rest)) (hg : g[0]? = some d) (hgl : g.length = 1) (hd : 48 ≤ d.toNat ∧ d.toNat < 58) (hr : rest.length ≤ 2) (hw : ∀ x ∈ rest, x.length ≤ 1000) {H : Heap} (hL : Lain S15 H) :
    Cl Tryd.prog pr15 11 [.int .i64 ((k : Int) + 1)] H fun r H' => Keep H H' ∧ r = .tuple [.agg [.str nm, .str (trimD sh), .int .i64 (d.toNat - 48 : Nat), .int .u32 (ndAt rest 0 rest.length).toNat, .int .u32 (ndAt rest 1 rest.length).toNat], .bool true] := by
  refine Cl.enter Tryd.func11 rfl rfl Tryd.ntmps11 (by simp) ?_
  refine walk none0 ?_
  have k0 : Keep H (H.push (.cells [.str [], .str [], .int .i64 0, .int .u32 0, .int .u32 0] 30 true false)) := Upd.rfl.push _
  have gp : (H.push (.cells [.str [], .str [], .int .i64 0, .int .u32 0, .int .u32 0] 30 true false)).get H.next = some (.cells [.str [], .str [], .int .i64 0, .int .u32 0, .int .u32 0] 30 true false) := by simp
  have np : (H.push (.cells [.str [], .str [], .int .i64 0, .int .u32 0, .int .u32 0] 30 true false)).next = H.next + 1 := by simp
  generalize H.push (.cells [.str [], .str [], .int .i64 0, .int .u32 0, .int .u32 0] 30 true false) = H0 at *
  refine (fieldsN_ok k hk hl (lain_kept hL k0)).mono fun v H1 n1 ⟨kA, h⟩ => ?_
  have gp1 := (kA.get (by omega)).trans gp
  obtain ⟨a, cap, ex, rfl, hc, hex⟩ := h.form
  obtain ⟨L, hLL⟩ : ∃ L, L = rest.length + 3 := ⟨_, rfl⟩
  have e3 : (nm :: g :: sh :: rest).length = L := by simp [hLL]
  have s0 := str_at h (i := 0) (x := nm) rfl
  have s1 := str_at h (i := 1) (x := g) rfl
  have s2 := str_at h (i := 2) (x := sh) rfl
  rw [e3] at *
  obtain ⟨b, o, c, t, w, mk, rfl, _, hb1, hb2, hb3, hb4⟩ := s0
  obtain ⟨b', o', c', t', w', mk', e', _, _, hb2', hb3', hb5⟩ := s1
  injection e' with e'; injection e' with e1 e2; subst e1; subst e2
  rw [hb2] at hb2'; injection hb2' with e'; injection e' with e1 e2 e4 e5; subst e1; subst e2; subst e4; subst e5
  obtain ⟨b', o', c', t', w', mk', e', _, _, hb2', hb3'', hb6⟩ := s2
  injection e' with e'; injection e' with e1 e2; subst e1; subst e2
  rw [hb2] at hb2'; injection hb2' with e'; injection e' with e1 e2 e4 e5; subst e1; subst e2; subst e4; subst e5
  have hL3 : 3 ≤ L := by omega
  rw [Nat.add_zero] at hb3 hb4
  refine walk none0 ?_
  refine Wq.regionM [(9, 0), (10, 0), (11, 0), (12, 0), (0, 0), (1, 0), (2, 2), (3, 0), (4, 0), (5, 2), (6, 0), (7, 0), (8, 0), (13, 0), (14, 0), (15, 0)] (by kernel_rfl) ?_
  refine mwalk (both hb2 (both hb3 (both hb4 (both hb5 (both hb6 (both hb3' (both hb3'' hL3))))))) ?_
  refine (trim_ok sh H1).mono fun v H2 _ ⟨e1, e2⟩ => ?_
  subst e1; subst e2
  have hdI : IntKind.u8.wrap ((d.toNat : Int) - 48) = ((d.toNat - 48 : Nat) : Int) := by simp [IntKind.wrap, IntKind.signed, IntKind.bits]; omega
  have hdJ : IntKind.i64.wrap ((d.toNat - 48 : Nat) : Int) = ((d.toNat - 48 : Nat) : Int) := by simp [IntKind.wrap, IntKind.signed, IntKind.bits]; omega
  refine mwalk (both hb2 (both hb3 (both hb4 (both hb5 (both hb6 (both hb3' (both hb3'' (both hL3 (both hdI (both hdJ (both hg hgl))))))))))) ?_
  refine Thenq.normal ?_
  generalize d.toNat - 48 = gt at *
  have k3 : Keep H2 ((H2.push (AObj.cells [AV.str [], AV.str [], AV.int IntKind.i64 0, AV.int IntKind.u32 0, AV.int IntKind.u32 0] 30 true false)).set H2.next (AObj.cells [AV.str nm, AV.str (trimD sh), AV.int IntKind.i64 gt, AV.int IntKind.u32 0, AV.int IntKind.u32 0] 30 true false)) := (Upd.rfl.push _).set _ (by simp) (by omega)
  have g3 : ((H2.push (AObj.cells [AV.str [], AV.str [], AV.int IntKind.i64 0, AV.int IntKind.u32 0, AV.int IntKind.u32 0] 30 true false)).set H2.next (AObj.cells [AV.str nm, AV.str (trimD sh), AV.int IntKind.i64 gt, AV.int IntKind.u32 0, AV.int IntKind.u32 0] 30 true false)).get H2.next = some (.cells [.str nm, .str (trimD sh), .int .i64 gt, .int .u32 0, .int .u32 0] 30 true false) := by simp
  have n3 : ((H2.push (AObj.cells [AV.str [], AV.str [], AV.int IntKind.i64 0, AV.int IntKind.u32 0, AV.int IntKind.u32 0] 30 true false)).set H2.next (AObj.cells [AV.str nm, AV.str (trimD sh), AV.int IntKind.i64 gt, AV.int IntKind.u32 0, AV.int IntKind.u32 0] 30 true false)).next = H2.next + 1 := by simp
  generalize ((H2.push (AObj.cells [AV.str [], AV.str [], AV.int IntKind.i64 0, AV.int IntKind.u32 0, AV.int IntKind.u32 0] 30 true false)).set H2.next (AObj.cells [AV.str nm, AV.str (trimD sh), AV.int IntKind.i64 gt, AV.int IntKind.u32 0, AV.int IntKind.u32 0] 30 true false)) = H3 at *
  obtain ⟨R, hR⟩ : ∃ R, R = rest.length := ⟨_, rfl⟩
  have hLR : L = R + 3 := by omega
  have hcut : sliceR Tryd.prog 40 (some (.slice (some (b, o)) L cap ex)) (some (some (.int .i64 3))) (some none) (some none) H3 = some (.slice (some (b, o + 3)) R (cap - 3) ex, H3) := by
    have hc' : L ≤ cap := by have := hc; simp only [List.length_cons] at this; omega
    rw [slc_l hc', elemS40]
    simp only [slcR]
    rw [if_pos (by omega), if_pos hex]
    simp only [Bool.false_eq_true, if_false]
    rw [show (o + Int.toNat 3 * 1) = o + 3 by simp, show ((L : Int) - 3).toNat = R by omega, show ((cap : Int) - 3).toNat = cap - 3 by omega]
  rw [← hR]
  refine walk hcut ?_
  clear hcut
  have h3 := h.kept k3
  have w1 : ∀ i, i < R → ∃ x, rest[i]? = some x := fun i hi => get_lt' (by omega)
  refine Wq.loop (fun m e H' => ∃ (i : Nat), i ≤ R ∧ m = R - i ∧ Keep H2 H' ∧ H2.next < H'.next ∧ H'.get H2.next = some (.cells [.str nm, .str (trimD sh), .int .i64 gt, .int .u32 (ndAt rest 0 i).toNat, .int .u32 (ndAt rest 1 i).toNat] 30 true false) ∧
    e 2 = .ptr (some (H.next, 0)) ∧ e 5 = .ptr (some (H2.next, 0)) ∧ e 31 = .slice (some (b, o + 3)) R (cap - 3) ex ∧ e 32 = .int .i64 R ∧ e 33 = .int .i64 i) R ?_ ?_
  · exact ⟨0, by omega, by omega, k3, by omega, by rw [g3]; rfl, by simp, by simp, by simp, by simp, by simp⟩
  · rintro m e H' ⟨i, hi, rfl, kB, nB, gB, g2, g5, g31, g32, g33⟩
    by_cases hlt : i < R
    · obtain ⟨x, hx⟩ := w1 i hlt
      have hsx := str_at (h.kept kB) (i := i + 3) (x := x) (by simpa using hx)
      obtain ⟨b', o', c', t', w', mk', e', _, _, hx2, hx3, hx4⟩ := hsx
      injection e' with e'; injection e' with e1 e2; subst e1; subst e2
      rw [show o + (i + 3) = o + 3 + i by omega] at hx3 hx4
      refine walk (both g2 (both g5 (both g31 (both g32 (both g33 (both hlt (both hx2 (both hx3 hx4)))))))) ?_
      have hPG : PG H2 ((H'.push (AObj.cells [AV.int IntKind.i64 0] 3 true false)).set H'.next (AObj.cells [AV.int IntKind.i64 ↑i] 3 true false)) H'.next i nm (trimD sh) gt (ndAt rest 0 i) (ndAt rest 1 i) :=
        ⟨(kB.push _).set _ (by simp) (by omega), nB, by simp, by rw [Heap.get_set_ne _ _ (by omega), Heap.get_push, if_neg (by omega)]; exact gB, by simp⟩
      generalize hbI : H'.next = bI at hPG ⊢
      generalize (H'.push (AObj.cells [AV.int IntKind.i64 0] 3 true false)).set bI (AObj.cells [AV.int IntKind.i64 ↑i] 3 true false) = H4 at *
      refine (seq_ok x H4).mono fun v H5 _ hv => ?_
      obtain ⟨lb, rfl⟩ : ∃ lb, v = .func (.func 36) [] lb := by obtain ⟨_, b1, b2, b3, t1, t2, t3, m1, m2, m3, e, _⟩ := hv; exact ⟨_, e⟩
      refine walk none0 ?_
      have hxl : x.length ≤ 1000 := hw x (List.mem_of_getElem? hx)
      have hrx : rest.getD i [] = x := by simp [hx]
      rcases (by omega : i = 0 ∨ i = 1) with rfl | rfl
      · have hn0 : ndAt rest 0 0 = 0#32 := rfl
        have hn1 : ndAt rest 1 0 = 0#32 := rfl
        have hm0 : ndAt rest 0 1 = needOf x := by unfold ndAt; rw [if_pos (by omega), hrx]
        have hm1 : ndAt rest 1 1 = 0#32 := rfl
        rw [hn0, hn1] at hPG
        refine Wq.rangeFunc (gf := 36) (lb := lb) rfl (by simp) (fun zs H' => ∃ l a, zs = strs l ∧ PG H2 H' bI 0 nm (trimD sh) gt a 0#32 ∧ l.foldl (fun a y => a ||| (bitOf y).getD 0) a = needOf x) ?_ ?_ ?_
        · refine (split_ok hv (by omega)).mono fun v H6 _ ⟨e, k⟩ => ?_
          exact ⟨_, e, _, _, rfl, hPG.kept k, rfl⟩
        · rintro z zs H' ⟨l, a, hz, hP', ho⟩
          obtain ⟨y, r, rfl, rfl, rfl⟩ : ∃ x r, l = x :: r ∧ z = .str x ∧ zs = strs r := by
            cases l with
            | nil => cases hz
            | cons x r => injection hz with h1 h2; exact ⟨x, r, rfl, h1, h2⟩
          refine walk none0 ?_
          refine (Bit_ok (lain_kept hL ((((k0.then kA).then hP'.keep)))) y).mono fun v H6 _ ⟨kB, e1⟩ => ?_
          subst e1
          have hP6 := hP'.kept kB
          have q1 := hP6.gc
          have q2 := hP6.gi
          have ho : r.foldl (fun a y => a ||| (bitOf y).getD 0) (a ||| (bitOf y).getD 0) = needOf x := ho
          generalize (bitOf y).getD 0 = w at *
          have hor := u32_or a w
          refine walk (both g5 (both q1 (both q2 hor))) ?_
          exact ⟨r, a ||| w, rfl, (by have := hP6.set (a ||| w) 0#32; rw [BitVec.toNat_or] at this; exact this), ho⟩
        · rintro H' ⟨l, a, hz, hP', ho⟩
          have hl : l = [] := by cases l with
            | nil => rfl
            | cons x r => cases hz
          subst hl
          have ho : a = needOf x := ho
          subst ho
          refine walk g33 ?_
          have gc := hP'.gc
          have c1 := hP'.lt
          have c2 := hP'.ltI
          refine Roundq.normal (R - 1) (by omega) ⟨1, by omega, rfl, hP'.keep, by omega, ?_, by simp [g2], by simp [g5], by simp [g31], by simp [g32], by simp⟩
          rw [gc, hm0, hm1]
          try rfl
      · have hn1 : ndAt rest 1 1 = 0#32 := rfl
        have hm1 : ndAt rest 1 2 = needOf x := by unfold ndAt; rw [if_pos (by omega), hrx]
        have hm0 : ndAt rest 0 2 = ndAt rest 0 1 := rfl
        obtain ⟨w0, hn0⟩ : ∃ w0, ndAt rest 0 1 = w0 := ⟨_, rfl⟩
        rw [hn0] at hm0
        rw [hn0, hn1] at hPG
        refine Wq.rangeFunc (gf := 36) (lb := lb) rfl (by simp) (fun zs H' => ∃ l a, zs = strs l ∧ PG H2 H' bI 1 nm (trimD sh) gt w0 a ∧ l.foldl (fun a y => a ||| (bitOf y).getD 0) a = needOf x) ?_ ?_ ?_
        · refine (split_ok hv (by omega)).mono fun v H6 _ ⟨e, k⟩ => ?_
          exact ⟨_, e, _, _, rfl, hPG.kept k, rfl⟩
        · rintro z zs H' ⟨l, a, hz, hP', ho⟩
          obtain ⟨y, r, rfl, rfl, rfl⟩ : ∃ x r, l = x :: r ∧ z = .str x ∧ zs = strs r := by
            cases l with
            | nil => cases hz
            | cons x r => injection hz with h1 h2; exact ⟨x, r, rfl, h1, h2⟩
          refine walk none0 ?_
          refine (Bit_ok (lain_kept hL ((((k0.then kA).then hP'.keep)))) y).mono fun v H6 _ ⟨kB, e1⟩ => ?_
          subst e1
          have hP6 := hP'.kept kB
          have q1 := hP6.gc
          have q2 := hP6.gi
          have ho : r.foldl (fun a y => a ||| (bitOf y).getD 0) (a ||| (bitOf y).getD 0) = needOf x := ho
          generalize (bitOf y).getD 0 = w at *
          have hor := u32_or a w
          refine walk (both g5 (both q1 (both q2 hor))) ?_
          exact ⟨r, a ||| w, rfl, (by have := hP6.set w0 (a ||| w); rw [BitVec.toNat_or] at this; exact this), ho⟩
        · rintro H' ⟨l, a, hz, hP', ho⟩
          have hl : l = [] := by cases l with
            | nil => rfl
            | cons x r => cases hz
          subst hl
          have ho : a = needOf x := ho
          subst ho
          refine walk g33 ?_
          have gc := hP'.gc
          have c1 := hP'.lt
          have c2 := hP'.ltI
          refine Roundq.normal (R - 2) (by omega) ⟨2, by omega, rfl, hP'.keep, by omega, ?_, by simp [g2], by simp [g5], by simp [g31], by simp [g32], by simp⟩
          rw [gc, hm0, hm1]
          try rfl
    · obtain rfl : i = R := by omega
      have nn : H.next < H2.next := by have := kA.next; omega
      have gz := (kB.get nn).trans gp1
      refine walk (both g2 (both g5 (both g31 (both g32 (both g33 (both gB gz)))))) ?_
      refine ⟨(k0.then (kA.then kB)).set _ (by omega) (by omega), rfl⟩
end Go.Abs

/- Chapter 15: the calls' table, whole; the gate. -/
namespace Go.Abs
open Go.Proofs
set_option maxRecDepth 100000
set_option linter.unusedVariables false
set_option linter.unusedSimpArgs false

/-- What a number's line tells. -/
structure Row where
  nm : Txt
  sh : Txt
  gt : Nat
  n0 : Nat
  n1 : Nat
def rowK (k : Nat) : Row := match FT[k]? with
  | some (nm :: [d] :: sh :: rest) => ⟨nm, trimD sh, d.toNat - 48, (ndAt rest 0 rest.length).toNat, (ndAt rest 1 rest.length).toNat⟩
  | _ => ⟨[], [], 0, 0, 0⟩
def inT (no : Int) : Prop := 1 ≤ no ∧ no ≤ 64
instance (no : Int) : Decidable (inT no) := by unfold inT; exact inferInstance
def rowI (no : Int) : Row := if inT no then rowK (no - 1).toNat else ⟨[], [], 0, 0, 0⟩
def rowV (r : Row) : AV := .agg [.str r.nm, .str r.sh, .int .i64 r.gt, .int .u32 r.n0, .int .u32 r.n1]
def goodL (l : List Txt) : Bool := match l with
  | nm :: [d] :: sh :: rest => decide (48 ≤ d.toNat) && decide (d.toNat < 58) && decide (rest.length ≤ 2) && rest.all fun x => decide (x.length ≤ 1000)
  | _ => false
theorem ft_good : FT.all goodL = true := by kernel_rfl
theorem ft_len : FT.length = 64 := by
  have : decide (FT.length = 64) = true := by kernel_rfl
  exact of_decide_eq_true this
theorem ft_at (k : Nat) (hk : k < 64) : ∃ nm d sh rest, FT[k]? = some (nm :: [d] :: sh :: rest) ∧ 48 ≤ d.toNat ∧ d.toNat < 58 ∧ rest.length ≤ 2 ∧ ∀ x ∈ rest, x.length ≤ 1000 := by
  obtain ⟨l, hl⟩ := get_lt' (l := FT) (i := k) (by rw [ft_len]; exact hk)
  have hg := List.all_eq_true.1 ft_good l (List.mem_of_getElem? hl)
  unfold goodL at hg
  split at hg
  · rename_i nm d sh rest
    simp only [Bool.and_eq_true, decide_eq_true_eq, List.all_eq_true] at hg
    exact ⟨nm, d, sh, rest, hl, hg.1.1.1, hg.1.1.2, hg.1.2, fun x hx => hg.2 x hx⟩
  · cases hg
theorem inT_of {no : Int} (h : inT no) : ∃ k : Nat, k < 64 ∧ no = (k : Int) + 1 ∧ rowI no = rowK k := by
  have h' := h
  obtain ⟨h1, h2⟩ := h
  refine ⟨(no - 1).toNat, by omega, by omega, ?_⟩
  unfold rowI
  rw [if_pos h']
theorem Get_all (no : Int) {H : Heap} (hL : Lain S15 H) : Cl Tryd.prog pr15 11 [.int .i64 no] H fun r H' => Keep H H' ∧ r = .tuple [rowV (rowI no), .bool (decide (inT no))] := by
  by_cases h : inT no
  · obtain ⟨k, hk, rfl, e⟩ := inT_of h
    obtain ⟨nm, d, sh, rest, hl, h1, h2, h3, h4⟩ := ft_at k hk
    have hr : rowK k = ⟨nm, trimD sh, d.toNat - 48, (ndAt rest 0 rest.length).toNat, (ndAt rest 1 rest.length).toNat⟩ := by unfold rowK; rw [hl]
    rw [e, hr, decide_eq_true h]
    exact Get_ok k hk hl rfl rfl ⟨h1, h2⟩ h3 h4 hL
  · have hn : no < 1 ∨ 64 < no := by unfold inT at h; omega
    have e : rowI no = ⟨[], [], 0, 0, 0⟩ := if_neg h
    rw [e, decide_eq_false h]
    refine Cl.enter Tryd.func11 rfl rfl Tryd.ntmps11 (by simp) ?_
    refine walk none0 ?_
    refine (fieldsN_no no hn _).mono fun v H1 _ ⟨e1, e2⟩ => ?_
    subst e1; subst e2
    refine walk none0 ?_
    exact ⟨(Upd.rfl.push _).set _ (by simp) (by omega), rfl⟩
def isCall (r : Option (AV × Heap)) (w : Row) : Bool := match r with
  | some (.tuple [.agg [.str x, .str y, .int .i64 z, .int .u32 p, .int .u32 q], .bool true], _) => x == w.nm && y == w.sh && decide (z = w.gt) && decide (p = w.n0) && decide (q = w.n1)
  | _ => false
theorem isCall_ok {r : Option (AV × Heap)} {w : Row} (h : isCall r w = true) : ∃ H', r = some (.tuple [rowV w, .bool true], H') := by
  unfold isCall at h
  split at h
  · simp only [Bool.and_eq_true, beq_iff_eq, decide_eq_true_eq] at h
    obtain ⟨⟨⟨⟨rfl, rfl⟩, rfl⟩, rfl⟩, rfl⟩ := h
    exact ⟨_, rfl⟩
  · cases h
theorem run14_0 : isCall (acall Tryd.prog base15 70 14 [.int .i64 (((0:Nat) : Int) + 1)] (Heap.startS Tryd.prog.globals.size S15)) (rowK 0) = true := by kernel_rfl
theorem run14_1 : isCall (acall Tryd.prog base15 70 14 [.int .i64 (((1:Nat) : Int) + 1)] (Heap.startS Tryd.prog.globals.size S15)) (rowK 1) = true := by kernel_rfl
theorem run14_2 : isCall (acall Tryd.prog base15 70 14 [.int .i64 (((2:Nat) : Int) + 1)] (Heap.startS Tryd.prog.globals.size S15)) (rowK 2) = true := by kernel_rfl
theorem run14_3 : isCall (acall Tryd.prog base15 70 14 [.int .i64 (((3:Nat) : Int) + 1)] (Heap.startS Tryd.prog.globals.size S15)) (rowK 3) = true := by kernel_rfl
theorem run14_4 : isCall (acall Tryd.prog base15 70 14 [.int .i64 (((4:Nat) : Int) + 1)] (Heap.startS Tryd.prog.globals.size S15)) (rowK 4) = true := by kernel_rfl
theorem run14_5 : isCall (acall Tryd.prog base15 70 14 [.int .i64 (((5:Nat) : Int) + 1)] (Heap.startS Tryd.prog.globals.size S15)) (rowK 5) = true := by kernel_rfl
theorem run14_6 : isCall (acall Tryd.prog base15 70 14 [.int .i64 (((6:Nat) : Int) + 1)] (Heap.startS Tryd.prog.globals.size S15)) (rowK 6) = true := by kernel_rfl
theorem run14_7 : isCall (acall Tryd.prog base15 70 14 [.int .i64 (((7:Nat) : Int) + 1)] (Heap.startS Tryd.prog.globals.size S15)) (rowK 7) = true := by kernel_rfl
theorem run14_8 : isCall (acall Tryd.prog base15 70 14 [.int .i64 (((8:Nat) : Int) + 1)] (Heap.startS Tryd.prog.globals.size S15)) (rowK 8) = true := by kernel_rfl
theorem run14_9 : isCall (acall Tryd.prog base15 70 14 [.int .i64 (((9:Nat) : Int) + 1)] (Heap.startS Tryd.prog.globals.size S15)) (rowK 9) = true := by kernel_rfl
theorem run14_10 : isCall (acall Tryd.prog base15 70 14 [.int .i64 (((10:Nat) : Int) + 1)] (Heap.startS Tryd.prog.globals.size S15)) (rowK 10) = true := by kernel_rfl
theorem run14_11 : isCall (acall Tryd.prog base15 70 14 [.int .i64 (((11:Nat) : Int) + 1)] (Heap.startS Tryd.prog.globals.size S15)) (rowK 11) = true := by kernel_rfl
theorem run14_12 : isCall (acall Tryd.prog base15 70 14 [.int .i64 (((12:Nat) : Int) + 1)] (Heap.startS Tryd.prog.globals.size S15)) (rowK 12) = true := by kernel_rfl
theorem run14_13 : isCall (acall Tryd.prog base15 70 14 [.int .i64 (((13:Nat) : Int) + 1)] (Heap.startS Tryd.prog.globals.size S15)) (rowK 13) = true := by kernel_rfl
theorem run14_14 : isCall (acall Tryd.prog base15 70 14 [.int .i64 (((14:Nat) : Int) + 1)] (Heap.startS Tryd.prog.globals.size S15)) (rowK 14) = true := by kernel_rfl
theorem run14_15 : isCall (acall Tryd.prog base15 70 14 [.int .i64 (((15:Nat) : Int) + 1)] (Heap.startS Tryd.prog.globals.size S15)) (rowK 15) = true := by kernel_rfl
theorem run14_16 : isCall (acall Tryd.prog base15 70 14 [.int .i64 (((16:Nat) : Int) + 1)] (Heap.startS Tryd.prog.globals.size S15)) (rowK 16) = true := by kernel_rfl
theorem run14_17 : isCall (acall Tryd.prog base15 70 14 [.int .i64 (((17:Nat) : Int) + 1)] (Heap.startS Tryd.prog.globals.size S15)) (rowK 17) = true := by kernel_rfl
theorem run14_18 : isCall (acall Tryd.prog base15 70 14 [.int .i64 (((18:Nat) : Int) + 1)] (Heap.startS Tryd.prog.globals.size S15)) (rowK 18) = true := by kernel_rfl
theorem run14_19 : isCall (acall Tryd.prog base15 70 14 [.int .i64 (((19:Nat) : Int) + 1)] (Heap.startS Tryd.prog.globals.size S15)) (rowK 19) = true := by kernel_rfl
theorem run14_20 : isCall (acall Tryd.prog base15 70 14 [.int .i64 (((20:Nat) : Int) + 1)] (Heap.startS Tryd.prog.globals.size S15)) (rowK 20) = true := by kernel_rfl
theorem run14_21 : isCall (acall Tryd.prog base15 70 14 [.int .i64 (((21:Nat) : Int) + 1)] (Heap.startS Tryd.prog.globals.size S15)) (rowK 21) = true := by kernel_rfl
theorem run14_22 : isCall (acall Tryd.prog base15 70 14 [.int .i64 (((22:Nat) : Int) + 1)] (Heap.startS Tryd.prog.globals.size S15)) (rowK 22) = true := by kernel_rfl
theorem run14_23 : isCall (acall Tryd.prog base15 70 14 [.int .i64 (((23:Nat) : Int) + 1)] (Heap.startS Tryd.prog.globals.size S15)) (rowK 23) = true := by kernel_rfl
theorem run14_24 : isCall (acall Tryd.prog base15 70 14 [.int .i64 (((24:Nat) : Int) + 1)] (Heap.startS Tryd.prog.globals.size S15)) (rowK 24) = true := by kernel_rfl
theorem run14_25 : isCall (acall Tryd.prog base15 70 14 [.int .i64 (((25:Nat) : Int) + 1)] (Heap.startS Tryd.prog.globals.size S15)) (rowK 25) = true := by kernel_rfl
theorem run14_26 : isCall (acall Tryd.prog base15 70 14 [.int .i64 (((26:Nat) : Int) + 1)] (Heap.startS Tryd.prog.globals.size S15)) (rowK 26) = true := by kernel_rfl
theorem run14_27 : isCall (acall Tryd.prog base15 70 14 [.int .i64 (((27:Nat) : Int) + 1)] (Heap.startS Tryd.prog.globals.size S15)) (rowK 27) = true := by kernel_rfl
theorem run14_28 : isCall (acall Tryd.prog base15 70 14 [.int .i64 (((28:Nat) : Int) + 1)] (Heap.startS Tryd.prog.globals.size S15)) (rowK 28) = true := by kernel_rfl
theorem run14_29 : isCall (acall Tryd.prog base15 70 14 [.int .i64 (((29:Nat) : Int) + 1)] (Heap.startS Tryd.prog.globals.size S15)) (rowK 29) = true := by kernel_rfl
theorem run14_30 : isCall (acall Tryd.prog base15 70 14 [.int .i64 (((30:Nat) : Int) + 1)] (Heap.startS Tryd.prog.globals.size S15)) (rowK 30) = true := by kernel_rfl
theorem run14_31 : isCall (acall Tryd.prog base15 70 14 [.int .i64 (((31:Nat) : Int) + 1)] (Heap.startS Tryd.prog.globals.size S15)) (rowK 31) = true := by kernel_rfl
theorem run14_32 : isCall (acall Tryd.prog base15 70 14 [.int .i64 (((32:Nat) : Int) + 1)] (Heap.startS Tryd.prog.globals.size S15)) (rowK 32) = true := by kernel_rfl
theorem run14_33 : isCall (acall Tryd.prog base15 70 14 [.int .i64 (((33:Nat) : Int) + 1)] (Heap.startS Tryd.prog.globals.size S15)) (rowK 33) = true := by kernel_rfl
theorem run14_34 : isCall (acall Tryd.prog base15 70 14 [.int .i64 (((34:Nat) : Int) + 1)] (Heap.startS Tryd.prog.globals.size S15)) (rowK 34) = true := by kernel_rfl
theorem run14_35 : isCall (acall Tryd.prog base15 70 14 [.int .i64 (((35:Nat) : Int) + 1)] (Heap.startS Tryd.prog.globals.size S15)) (rowK 35) = true := by kernel_rfl
theorem run14_36 : isCall (acall Tryd.prog base15 70 14 [.int .i64 (((36:Nat) : Int) + 1)] (Heap.startS Tryd.prog.globals.size S15)) (rowK 36) = true := by kernel_rfl
theorem run14_37 : isCall (acall Tryd.prog base15 70 14 [.int .i64 (((37:Nat) : Int) + 1)] (Heap.startS Tryd.prog.globals.size S15)) (rowK 37) = true := by kernel_rfl
theorem run14_38 : isCall (acall Tryd.prog base15 70 14 [.int .i64 (((38:Nat) : Int) + 1)] (Heap.startS Tryd.prog.globals.size S15)) (rowK 38) = true := by kernel_rfl
theorem run14_39 : isCall (acall Tryd.prog base15 70 14 [.int .i64 (((39:Nat) : Int) + 1)] (Heap.startS Tryd.prog.globals.size S15)) (rowK 39) = true := by kernel_rfl
theorem run14_40 : isCall (acall Tryd.prog base15 70 14 [.int .i64 (((40:Nat) : Int) + 1)] (Heap.startS Tryd.prog.globals.size S15)) (rowK 40) = true := by kernel_rfl
theorem run14_41 : isCall (acall Tryd.prog base15 70 14 [.int .i64 (((41:Nat) : Int) + 1)] (Heap.startS Tryd.prog.globals.size S15)) (rowK 41) = true := by kernel_rfl
theorem run14_42 : isCall (acall Tryd.prog base15 70 14 [.int .i64 (((42:Nat) : Int) + 1)] (Heap.startS Tryd.prog.globals.size S15)) (rowK 42) = true := by kernel_rfl
theorem run14_43 : isCall (acall Tryd.prog base15 70 14 [.int .i64 (((43:Nat) : Int) + 1)] (Heap.startS Tryd.prog.globals.size S15)) (rowK 43) = true := by kernel_rfl
theorem run14_44 : isCall (acall Tryd.prog base15 70 14 [.int .i64 (((44:Nat) : Int) + 1)] (Heap.startS Tryd.prog.globals.size S15)) (rowK 44) = true := by kernel_rfl
theorem run14_45 : isCall (acall Tryd.prog base15 70 14 [.int .i64 (((45:Nat) : Int) + 1)] (Heap.startS Tryd.prog.globals.size S15)) (rowK 45) = true := by kernel_rfl
theorem run14_46 : isCall (acall Tryd.prog base15 70 14 [.int .i64 (((46:Nat) : Int) + 1)] (Heap.startS Tryd.prog.globals.size S15)) (rowK 46) = true := by kernel_rfl
theorem run14_47 : isCall (acall Tryd.prog base15 70 14 [.int .i64 (((47:Nat) : Int) + 1)] (Heap.startS Tryd.prog.globals.size S15)) (rowK 47) = true := by kernel_rfl
theorem run14_48 : isCall (acall Tryd.prog base15 70 14 [.int .i64 (((48:Nat) : Int) + 1)] (Heap.startS Tryd.prog.globals.size S15)) (rowK 48) = true := by kernel_rfl
theorem run14_49 : isCall (acall Tryd.prog base15 70 14 [.int .i64 (((49:Nat) : Int) + 1)] (Heap.startS Tryd.prog.globals.size S15)) (rowK 49) = true := by kernel_rfl
theorem run14_50 : isCall (acall Tryd.prog base15 70 14 [.int .i64 (((50:Nat) : Int) + 1)] (Heap.startS Tryd.prog.globals.size S15)) (rowK 50) = true := by kernel_rfl
theorem run14_51 : isCall (acall Tryd.prog base15 70 14 [.int .i64 (((51:Nat) : Int) + 1)] (Heap.startS Tryd.prog.globals.size S15)) (rowK 51) = true := by kernel_rfl
theorem run14_52 : isCall (acall Tryd.prog base15 70 14 [.int .i64 (((52:Nat) : Int) + 1)] (Heap.startS Tryd.prog.globals.size S15)) (rowK 52) = true := by kernel_rfl
theorem run14_53 : isCall (acall Tryd.prog base15 70 14 [.int .i64 (((53:Nat) : Int) + 1)] (Heap.startS Tryd.prog.globals.size S15)) (rowK 53) = true := by kernel_rfl
theorem run14_54 : isCall (acall Tryd.prog base15 70 14 [.int .i64 (((54:Nat) : Int) + 1)] (Heap.startS Tryd.prog.globals.size S15)) (rowK 54) = true := by kernel_rfl
theorem run14_55 : isCall (acall Tryd.prog base15 70 14 [.int .i64 (((55:Nat) : Int) + 1)] (Heap.startS Tryd.prog.globals.size S15)) (rowK 55) = true := by kernel_rfl
theorem run14_56 : isCall (acall Tryd.prog base15 70 14 [.int .i64 (((56:Nat) : Int) + 1)] (Heap.startS Tryd.prog.globals.size S15)) (rowK 56) = true := by kernel_rfl
theorem run14_57 : isCall (acall Tryd.prog base15 70 14 [.int .i64 (((57:Nat) : Int) + 1)] (Heap.startS Tryd.prog.globals.size S15)) (rowK 57) = true := by kernel_rfl
theorem run14_58 : isCall (acall Tryd.prog base15 70 14 [.int .i64 (((58:Nat) : Int) + 1)] (Heap.startS Tryd.prog.globals.size S15)) (rowK 58) = true := by kernel_rfl
theorem run14_59 : isCall (acall Tryd.prog base15 70 14 [.int .i64 (((59:Nat) : Int) + 1)] (Heap.startS Tryd.prog.globals.size S15)) (rowK 59) = true := by kernel_rfl
theorem run14_60 : isCall (acall Tryd.prog base15 70 14 [.int .i64 (((60:Nat) : Int) + 1)] (Heap.startS Tryd.prog.globals.size S15)) (rowK 60) = true := by kernel_rfl
theorem run14_61 : isCall (acall Tryd.prog base15 70 14 [.int .i64 (((61:Nat) : Int) + 1)] (Heap.startS Tryd.prog.globals.size S15)) (rowK 61) = true := by kernel_rfl
theorem run14_62 : isCall (acall Tryd.prog base15 70 14 [.int .i64 (((62:Nat) : Int) + 1)] (Heap.startS Tryd.prog.globals.size S15)) (rowK 62) = true := by kernel_rfl
theorem run14_63 : isCall (acall Tryd.prog base15 70 14 [.int .i64 (((63:Nat) : Int) + 1)] (Heap.startS Tryd.prog.globals.size S15)) (rowK 63) = true := by kernel_rfl
theorem run14 : ∀ (k : Nat), k < 64 → isCall (acall Tryd.prog base15 70 14 [.int .i64 ((k : Int) + 1)] (Heap.startS Tryd.prog.globals.size S15)) (rowK k) = true
  | 0, _ => run14_0
  | 1, _ => run14_1
  | 2, _ => run14_2
  | 3, _ => run14_3
  | 4, _ => run14_4
  | 5, _ => run14_5
  | 6, _ => run14_6
  | 7, _ => run14_7
  | 8, _ => run14_8
  | 9, _ => run14_9
  | 10, _ => run14_10
  | 11, _ => run14_11
  | 12, _ => run14_12
  | 13, _ => run14_13
  | 14, _ => run14_14
  | 15, _ => run14_15
  | 16, _ => run14_16
  | 17, _ => run14_17
  | 18, _ => run14_18
  | 19, _ => run14_19
  | 20, _ => run14_20
  | 21, _ => run14_21
  | 22, _ => run14_22
  | 23, _ => run14_23
  | 24, _ => run14_24
  | 25, _ => run14_25
  | 26, _ => run14_26
  | 27, _ => run14_27
  | 28, _ => run14_28
  | 29, _ => run14_29
  | 30, _ => run14_30
  | 31, _ => run14_31
  | 32, _ => run14_32
  | 33, _ => run14_33
  | 34, _ => run14_34
  | 35, _ => run14_35
  | 36, _ => run14_36
  | 37, _ => run14_37
  | 38, _ => run14_38
  | 39, _ => run14_39
  | 40, _ => run14_40
  | 41, _ => run14_41
  | 42, _ => run14_42
  | 43, _ => run14_43
  | 44, _ => run14_44
  | 45, _ => run14_45
  | 46, _ => run14_46
  | 47, _ => run14_47
  | 48, _ => run14_48
  | 49, _ => run14_49
  | 50, _ => run14_50
  | 51, _ => run14_51
  | 52, _ => run14_52
  | 53, _ => run14_53
  | 54, _ => run14_54
  | 55, _ => run14_55
  | 56, _ => run14_56
  | 57, _ => run14_57
  | 58, _ => run14_58
  | 59, _ => run14_59
  | 60, _ => run14_60
  | 61, _ => run14_61
  | 62, _ => run14_62
  | 63, _ => run14_63
  | k + 64, h => absurd h (by omega)
theorem refGet_in (k : Nat) (hk : k < 64) {H : Heap} (hL : Lain S15 H) : Cl Tryd.prog pr15 14 [.int .i64 ((k : Int) + 1)] H fun r H' => Keep H H' ∧ r = .tuple [rowV (rowK k), .bool true] := by
  obtain ⟨H1, h⟩ := isCall_ok (run14 k hk)
  exact Cl.prim (v := .tuple [rowV (rowK k), .bool true]) (H' := H) (g := relocP Tryd.prog base15 S15 14) rfl (relocP_flat rfl hL rfl h) ⟨Upd.rfl, rfl⟩
end Go.Abs

/- Chapter 15: the reference's table, outside it. -/
namespace Go.Abs
open Go.Proofs
set_option maxRecDepth 100000
set_option maxHeartbeats 4000000
set_option linter.unusedVariables false
set_option linter.unusedSimpArgs false

theorem refGet_no (no : Int) (hn : no < 1 ∨ 64 < no) (H : Heap) : Cl Tryd.prog base15 14 [.int .i64 no] H fun r _ => r = .tuple [rowV ⟨[], [], 0, 0, 0⟩, .bool false] := by
  have h1 : ¬ no = 1 := by omega
  have h2 : ¬ no = 2 := by omega
  have h3 : ¬ no = 3 := by omega
  have h4 : ¬ no = 4 := by omega
  have h5 : ¬ no = 5 := by omega
  have h6 : ¬ no = 6 := by omega
  have h7 : ¬ no = 7 := by omega
  have h8 : ¬ no = 8 := by omega
  have h9 : ¬ no = 9 := by omega
  have h10 : ¬ no = 10 := by omega
  have h11 : ¬ no = 11 := by omega
  have h12 : ¬ no = 12 := by omega
  have h13 : ¬ no = 13 := by omega
  have h14 : ¬ no = 14 := by omega
  have h15 : ¬ no = 15 := by omega
  have h16 : ¬ no = 16 := by omega
  have h17 : ¬ no = 17 := by omega
  have h18 : ¬ no = 18 := by omega
  have h19 : ¬ no = 19 := by omega
  have h20 : ¬ no = 20 := by omega
  have h21 : ¬ no = 21 := by omega
  have h22 : ¬ no = 22 := by omega
  have h23 : ¬ no = 23 := by omega
  have h24 : ¬ no = 24 := by omega
  have h25 : ¬ no = 25 := by omega
  have h26 : ¬ no = 26 := by omega
  have h27 : ¬ no = 27 := by omega
  have h28 : ¬ no = 28 := by omega
  have h29 : ¬ no = 29 := by omega
  have h30 : ¬ no = 30 := by omega
  have h31 : ¬ no = 31 := by omega
  have h32 : ¬ no = 32 := by omega
  have h33 : ¬ no = 33 := by omega
  have h34 : ¬ no = 34 := by omega
  have h35 : ¬ no = 35 := by omega
  have h36 : ¬ no = 36 := by omega
  have h37 : ¬ no = 37 := by omega
  have h38 : ¬ no = 38 := by omega
  have h39 : ¬ no = 39 := by omega
  have h40 : ¬ no = 40 := by omega
  have h41 : ¬ no = 41 := by omega
  have h42 : ¬ no = 42 := by omega
  have h43 : ¬ no = 43 := by omega
  have h44 : ¬ no = 44 := by omega
  have h45 : ¬ no = 45 := by omega
  have h46 : ¬ no = 46 := by omega
  have h47 : ¬ no = 47 := by omega
  have h48 : ¬ no = 48 := by omega
  have h49 : ¬ no = 49 := by omega
  have h50 : ¬ no = 50 := by omega
  have h51 : ¬ no = 51 := by omega
  have h52 : ¬ no = 52 := by omega
  have h53 : ¬ no = 53 := by omega
  have h54 : ¬ no = 54 := by omega
  have h55 : ¬ no = 55 := by omega
  have h56 : ¬ no = 56 := by omega
  have h57 : ¬ no = 57 := by omega
  have h58 : ¬ no = 58 := by omega
  have h59 : ¬ no = 59 := by omega
  have h60 : ¬ no = 60 := by omega
  have h61 : ¬ no = 61 := by omega
  have h62 : ¬ no = 62 := by omega
  have h63 : ¬ no = 63 := by omega
  have h64 : ¬ no = 64 := by omega
  clear hn
  refine Cl.enter Tryd.func14 rfl rfl Tryd.ntmps14 (by simp) ?_
  refine walk (both h1 (both h2 (both h3 (both h4 (both h5 (both h6 (both h7 (both h8 (both h9 (both h10 (both h11 (both h12 (both h13 (both h14 (both h15 (both h16 (both h17 (both h18 (both h19 (both h20 (both h21 (both h22 (both h23 (both h24 (both h25 (both h26 (both h27 (both h28 (both h29 (both h30 (both h31 (both h32 (both h33 (both h34 (both h35 (both h36 (both h37 (both h38 (both h39 (both h40 (both h41 (both h42 (both h43 (both h44 (both h45 (both h46 (both h47 (both h48 (both h49 (both h50 (both h51 (both h52 (both h53 (both h54 (both h55 (both h56 (both h57 (both h58 (both h59 (both h60 (both h61 (both h62 (both h63 h64))))))))))))))))))))))))))))))))))))))))))))))))))))))))))))))) ?_
  rfl
theorem start_wf15 : Wf (Heap.startS Tryd.prog.globals.size S15) := by
  intro b hb
  cases hg : (Heap.startS Tryd.prog.globals.size S15).get b with
  | none => rfl
  | some o =>
    have h := startS_get hg
    simp only [S15, List.mem_singleton, Prod.mk.injEq] at h
    have h0 : 0 < Tryd.prog.globals.size := of_decide_eq_true (by kernel_rfl)
    have hb : Tryd.prog.globals.size ≤ b := hb
    omega
theorem base15_rl : PrimsRl base15 := orPrims_rl (seqPrims_rl _) (orPrims_rl (fieldPrims_rl _ _ _) (extPrims_rl _))
theorem refGet_all (no : Int) {H : Heap} (hL : Lain S15 H) : Cl Tryd.prog pr15 14 [.int .i64 no] H fun r H' => Keep H H' ∧ r = .tuple [rowV (rowI no), .bool (decide (inT no))] := by
  by_cases h : inT no
  · obtain ⟨k, hk, rfl, e⟩ := inT_of h
    rw [e, decide_eq_true h]
    exact refGet_in k hk hL
  · have hn : no < 1 ∨ 64 < no := by unfold inT at h; omega
    have e : rowI no = ⟨[], [], 0, 0, 0⟩ := if_neg h
    rw [e, decide_eq_false h]
    have hc := refGet_no no hn (Heap.startS Tryd.prog.globals.size S15)
    unfold Cl CallsA at hc
    obtain ⟨n, v, H1, hr, rfl⟩ := hc base15_rl start_wf15
    exact Cl.prim (v := .tuple [rowV ⟨[], [], 0, 0, 0⟩, .bool false]) (H' := H) (g := relocP Tryd.prog base15 S15 14) rfl (relocP_flat rfl hL rfl hr) ⟨Upd.rfl, rfl⟩
end Go.Abs

/- Chapter 15: the gate. -/
namespace Go.Abs
open Go.Proofs
set_option maxRecDepth 100000
set_option linter.unusedVariables false
set_option linter.unusedSimpArgs false

def gateI (no dir : Int) (cap : Bool) : Int := if cap = true ∧ ((rowI no).gt = 1 ∨ ((rowI no).gt = 2 ∧ dir = -100)) then 94 else 0
theorem Gate_ok (no dir : Int) (cap : Bool) {H : Heap} (hL : Lain S15 H) : Cl Tryd.prog pr15 8 [.int .i64 no, .int .i64 dir, .bool cap] H fun r H' => Keep H H' ∧ r = .int .i64 (gateI no dir cap) := by
  refine Cl.enter Tryd.func8 rfl rfl Tryd.ntmps8 (by simp) ?_
  refine walk none0 ?_
  refine (Get_all no hL).mono fun v H1 _ ⟨kA, e1⟩ => ?_
  subst e1
  unfold gateI
  cases rowI no with
  | mk nm sh gt n0 n1 =>
  unfold rowV
  simp only []
  cases cap with
  | false =>
    refine walk none0 ?_
    exact ⟨(kA.push _).set _ (by simp) (by have := kA.next; omega), rfl⟩
  | true =>
    by_cases h1 : gt = 1
    · subst h1
      refine walk none0 ?_
      exact ⟨(kA.push _).set _ (by simp) (by have := kA.next; omega), rfl⟩
    · have h1' : ¬ ((gt : Int) = 1) := by omega
      by_cases h2 : gt = 2
      · subst h2
        by_cases h3 : dir = -100
        · subst h3
          refine walk h1' ?_
          exact ⟨(kA.push _).set _ (by simp) (by have := kA.next; omega), rfl⟩
        · refine walk (both h1' h3) ?_
          exact ⟨(kA.push _).set _ (by simp) (by have := kA.next; omega), by simp [h3]⟩
      · have h2' : ¬ ((gt : Int) = 2) := by omega
        refine walk (both h1' h2') ?_
        exact ⟨(kA.push _).set _ (by simp) (by have := kA.next; omega), by simp [h1, h2]⟩
theorem refGate_ok (no dir : Int) (cap : Bool) {H : Heap} (hL : Lain S15 H) : Cl Tryd.prog pr15 9 [.int .i64 no, .int .i64 dir, .bool cap] H fun r H' => Keep H H' ∧ r = .int .i64 (gateI no dir cap) := by
  refine Cl.enter Tryd.func9 rfl rfl Tryd.ntmps9 (by simp) ?_
  refine walk none0 ?_
  refine (refGet_all no hL).mono fun v H1 _ ⟨kA, e1⟩ => ?_
  subst e1
  unfold gateI
  cases rowI no with
  | mk nm sh gt n0 n1 =>
  unfold rowV
  simp only []
  cases cap with
  | false =>
    refine walk none0 ?_
    exact ⟨(kA.push _).set _ (by simp) (by have := kA.next; omega), rfl⟩
  | true =>
    by_cases h1 : gt = 1
    · subst h1
      refine walk none0 ?_
      exact ⟨(kA.push _).set _ (by simp) (by have := kA.next; omega), rfl⟩
    · have h1' : ¬ ((gt : Int) = 1) := by omega
      by_cases h2 : gt = 2
      · subst h2
        by_cases h3 : dir = -100
        · subst h3
          refine walk h1' ?_
          exact ⟨(kA.push _).set _ (by simp) (by have := kA.next; omega), rfl⟩
        · refine walk (both h1' h3) ?_
          exact ⟨(kA.push _).set _ (by simp) (by have := kA.next; omega), by simp [h3]⟩
      · have h2' : ¬ ((gt : Int) = 2) := by omega
        refine walk (both h1' h2') ?_
        exact ⟨(kA.push _).set _ (by simp) (by have := kA.next; omega), by simp [h1, h2]⟩
def eqSemF (P : Program) (t : TypeId) (xs ys : List AV) : Option Bool :=
  match P.underlying t with
  | some (.struct _) => if P.eqGuardType P.depth t then none else eqA P 8 t (.agg xs) (.agg ys)
  | _ => none
theorem eqSemF_eq {P : Program} {t : TypeId} {xs ys : List AV} {neg r : Bool} (h : eqSemF P t xs ys = some r) : eqSem P t (.agg xs) (.agg ys) neg = some (.pure (.bool (r != neg))) := by
  unfold eqSemF at h
  unfold eqSem
  split at h
  · rename_i hu
    rw [hu]
    split at h
    · cases h
    · rename_i hg
      simp only [hg, h, Bool.false_eq_true, if_false]
  · cases h
def eqB : List (Option Bool) → Option Bool
  | [] => some true
  | x :: r => match x with
    | some true => eqB r
    | some false => some false
    | none => none
theorem eqC_chain (a a' : Txt) (b b' : Txt) (c c' d d' e e' : Int) : eqSemF Tryd.prog 30 [.str a, .str b, .int .i64 c, .int .u32 d, .int .u32 e] [.str a', .str b', .int .i64 c', .int .u32 d', .int .u32 e'] = eqB [some (a == a'), some (b == b'), some (c == c'), eqB [some (d == d'), some (e == e')]] := by kernel_rfl
theorem eqC (r : Row) (H : Heap) : binR Tryd.prog .eql 30 (some (.agg [.str r.nm, .str r.sh, .int .i64 r.gt, .int .u32 r.n0, .int .u32 r.n1])) (some (.agg [.str r.nm, .str r.sh, .int .i64 r.gt, .int .u32 r.n0, .int .u32 r.n1])) H = some (.bool true, H) := by
  have h := eqC_chain r.nm r.nm r.sh r.sh r.gt r.gt r.n0 r.n0 r.n1 r.n1
  simp only [beq_self_eq_true, eqB] at h
  rw [binR_agg, eqSemF_eq h]
  simp [Sm.run]
theorem lives_ok {H : Heap} (hL : Lain S15 H) : Cl Tryd.prog pr15 10 [] H fun r H' => Keep H H' ∧ r = .bool true := by
  have e3 : rowI 3 = ⟨[114, 101, 97, 100], [102, 110], 0, 1, 0⟩ := by kernel_rfl
  have g33 : gateI 33 (-100) true = 94 := by kernel_rfl
  refine Cl.enter Tryd.func10 rfl rfl Tryd.ntmps10 (by simp) ?_
  refine walk none0 ?_
  refine (Get_all 3 hL).mono fun v H1 _ ⟨kA, e1⟩ => ?_
  rw [e3] at e1
  unfold rowV at e1
  have hd : decide (inT 3) = true := rfl
  rw [hd] at e1
  subst e1
  simp only []
  have hq : ∀ H, binR Tryd.prog .eql 30 (some (.agg [.str [114, 101, 97, 100], .str [102, 110], .int .i64 0, .int .u32 1, .int .u32 0])) (some (.agg [.str [114, 101, 97, 100], .str [102, 110], .int .i64 0, .int .u32 1, .int .u32 0])) H = some (.bool true, H) := eqC ⟨[114, 101, 97, 100], [102, 110], 0, 1, 0⟩
  refine walk hq ?_
  have kC : Keep H ((H1.push (.cells [.str [], .str [], .int .i64 0, .int .u32 0, .int .u32 0] 30 true false)).set H1.next (.cells [.str [114, 101, 97, 100], .str [102, 110], .int .i64 0, .int .u32 1, .int .u32 0] 30 true false)) := (kA.push _).set _ (by simp) (by have := kA.next; omega)
  refine (Gate_ok 33 (-100) true (lain_kept hL kC)).mono fun v H2 _ ⟨kB, e1⟩ => ?_
  rw [g33] at e1
  subst e1
  refine walk none0 ?_
  exact ⟨kC.then kB, rfl⟩
theorem callsGate_main (no dir : Int) (cap : Bool) {H : Heap} (hL : Lain S15 H) : Cl Tryd.prog pr15 3 [.int .i64 no, .int .i64 dir, .bool cap] H fun v _ => v = .bool true := by
  refine Cl.enter Tryd.func3 rfl rfl Tryd.ntmps3 (by simp) ?_
  refine walk none0 ?_
  refine (Gate_ok no dir cap hL).mono fun v H1 _ ⟨kA, e1⟩ => ?_
  subst e1
  refine walk none0 ?_
  refine (refGate_ok no dir cap (lain_kept hL kA)).mono fun v H2 _ ⟨kB, e1⟩ => ?_
  subst e1
  generalize gateI no dir cap = z
  have hL2 := lain_kept hL (kA.then kB)
  refine walk none0 ?_
  refine (Gate_ok no dir false hL2).mono fun v H3 _ ⟨kC, e1⟩ => ?_
  have hz : gateI no dir false = 0 := rfl
  rw [hz] at e1
  subst e1
  refine walk none0 ?_
  refine (lives_ok (lain_kept hL2 kC)).mono fun v H4 _ ⟨kD, e1⟩ => ?_
  subst e1
  refine walk none0 ?_
  rfl
end Go.Abs

/- The seat's own facts for its rows. -/
namespace Go.Proofs.YtjbccgpaaaoljaaDoor
open Go.ChangeShapes Go.WideShapes Go.ChangeAt Go.RowKit Go.Abs
set_option linter.unusedVariables false
set_option maxRecDepth 100000

theorem own : ownKnob Tryd.prog.godebug = none := by kernel_rfl
theorem laidOut : laidOutB Tryd.prog = true := by kernel_rfl
theorem mixed : Tryd.prog.follows .mixedOrders = true := Tryd.mixed15
theorem plainN : plainNames Tryd.prog = true := Tryd.plain15
theorem primsOk : PrimsOk Tryd.prog pr15 := relocPrims_ok mixed plainN Tryd.baseOk (by kernel_rfl) [14] (by intro f hf; simp at hf; subst hf; exact of_decide_eq_true (by kernel_rfl))
theorem primsRl : PrimsRl pr15 := relocPrims_rl Tryd.baseRl S15 [14]
theorem tabs_of (l : List (String × DataW Unit)) (W : World) (hL : laidMet Tryd.prog l W) (hm : ("strings.asciiSpace", Rows.laid_strings_asciiSpace) ∈ l) : ∀ p ∈ S15, TabW Tryd.prog.globals.size W p := by
  intro p hp
  simp [S15] at hp
  subst hp
  have hd : (Rows.laid_strings_asciiSpace : DataW Unit) = Lib.tabData .u8 Lib.asciiSpaceTab := by kernel_rfl
  have hr := Lib.laidMet.reads hL hm
  have hg : Tryd.prog.globalNamed "strings.asciiSpace" = some 0 := by kernel_rfl
  have htab : Lib.TabIs Tryd.prog W "strings.asciiSpace" .u8 Lib.asciiSpaceTab := tabIs_of_reads hg (by kernel_rfl) Tryd.underlying54 Tryd.underlying5 (by kernel_rfl) (by kernel_rfl) hd hr
  have he : spaceC = Lib.asciiSpaceTab.map fun z => .int .u8 z := by simp [spaceC, Lib.asciiSpaceTab, List.map_map, Function.comp_def]
  rw [he]
  exact tabW_of htab hg (of_decide_eq_true (by kernel_rfl)) (by simp [Lib.asciiSpaceTab])
theorem tabs_get : ∀ p ∈ S15, (Heap.startS Tryd.prog.globals.size S15).get p.1 = some p.2 := by
  intro p hp
  simp [S15] at hp
  subst hp
  exact Tree.get_set _ _ _ _ |>.trans (by simp)

end Go.Proofs.YtjbccgpaaaoljaaDoor

/- Chapter 15: CallsGlobal, walked. -/
namespace Go.Abs
open Go.Proofs
set_option maxRecDepth 100000
set_option linter.unusedVariables false
set_option linter.unusedSimpArgs false

theorem glob_run : ((List.range 64).all fun k => !(decide ((rowK k).gt ≠ 1 ∧ (rowK k).gt ≠ 2)) || (rowK k).sh.all fun c => c != 83 && c != 84 && c != 100) = true := by kernel_rfl
theorem glob_of {no : Int} (h : inT no) (hg : gateI no (-100) true = 0) : ∀ c ∈ (rowI no).sh, c ≠ 83 ∧ c ≠ 84 ∧ c ≠ 100 := by
  obtain ⟨k, hk, rfl, e⟩ := inT_of h
  have h1 := List.all_eq_true.1 glob_run k (List.mem_range.2 hk)
  have h2 : (rowK k).gt ≠ 1 ∧ (rowK k).gt ≠ 2 := by
    unfold gateI at hg
    rw [e] at hg
    split at hg
    · cases hg
    · rename_i hn
      constructor <;> intro hh <;> apply hn <;> simp [hh]
  rw [decide_eq_true h2] at h1
  simp only [Bool.not_true, Bool.false_or, List.all_eq_true, Bool.and_eq_true, bne_iff_ne] at h1
  rw [e]
  intro c hc
  have := h1 c hc
  exact ⟨this.1.1, this.1.2, this.2⟩
theorem sh_run : ((List.range 64).all fun k => decide ((rowK k).sh.length ≤ 100)) = true := by kernel_rfl
theorem sh_len {no : Int} (h : inT no) : (rowI no).sh.length ≤ 100 := by
  obtain ⟨k, hk, rfl, e⟩ := inT_of h
  rw [e]
  exact of_decide_eq_true (List.all_eq_true.1 sh_run k (List.mem_range.2 hk))
theorem callsGlobal_main (no : Int) {H : Heap} (hL : Lain S15 H) : Cl Tryd.prog pr15 4 [.int .i64 no] H fun v _ => v = .bool true := by
  have hglob := @glob_of no
  have hshl := @sh_len no
  refine Cl.enter Tryd.func4 rfl rfl Tryd.ntmps4 (by simp) ?_
  refine walk none0 ?_
  refine (Get_all no hL).mono fun v H1 _ ⟨kA, e1⟩ => ?_
  subst e1
  generalize hr : rowI no = r at *
  obtain ⟨nm, sh, gt, n0, n1⟩ := r
  unfold rowV
  simp only []
  have kC : Keep H ((H1.push (.cells [.str [], .str [], .int .i64 0, .int .u32 0, .int .u32 0] 30 true false)).set H1.next (.cells [.str nm, .str sh, .int .i64 gt, .int .u32 n0, .int .u32 n1] 30 true false)) := (kA.push _).set _ (by simp) (by have := kA.next; omega)
  have gC : ((H1.push (.cells [.str [], .str [], .int .i64 0, .int .u32 0, .int .u32 0] 30 true false)).set H1.next (.cells [.str nm, .str sh, .int .i64 gt, .int .u32 n0, .int .u32 n1] 30 true false)).get H1.next = some (.cells [.str nm, .str sh, .int .i64 gt, .int .u32 n0, .int .u32 n1] 30 true false) := by simp
  have nC : H1.next < ((H1.push (.cells [.str [], .str [], .int .i64 0, .int .u32 0, .int .u32 0] 30 true false)).set H1.next (.cells [.str nm, .str sh, .int .i64 gt, .int .u32 n0, .int .u32 n1] 30 true false)).next := by simp
  by_cases h : inT no
  · rw [decide_eq_true h]
    refine walk none0 ?_
    generalize (H1.push (.cells [.str [], .str [], .int .i64 0, .int .u32 0, .int .u32 0] 30 true false)).set H1.next (.cells [.str nm, .str sh, .int .i64 gt, .int .u32 n0, .int .u32 n1] 30 true false) = H2 at *
    refine (Gate_ok no (-100) true (lain_kept hL kC)).mono fun v H3 _ ⟨kB, e1⟩ => ?_
    subst e1
    have g3 := (kB.get nC).trans gC
    by_cases hg : gateI no (-100) true = 0
    · rw [hg]
      have hs : ∀ c ∈ sh, c ≠ 83 ∧ c ≠ 84 ∧ c ≠ 100 := hglob h hg
      refine walk g3 ?_
      have hl : sh.length ≤ 100 := hshl h
      refine Wq.loop (fun m e H' => ∃ i : Nat, i ≤ sh.length ∧ m = sh.length - i ∧ H' = H3 ∧ e 3 = .ptr (some (H1.next, 0)) ∧ e 5 = .int .i64 i) sh.length ?_ ?_
      · exact ⟨0, by omega, by omega, rfl, by simp, by simp⟩
      · rintro m e H' ⟨i, hi, rfl, rfl, e3, e5⟩
        by_cases hlt : i < sh.length
        · obtain ⟨x, hx⟩ := get_lt' hlt
          obtain ⟨c1, c2, c3⟩ := hs x (List.mem_of_getElem? hx)
          have d1 : ¬ (x.toNat : Int) = 83 := fun h => c1 (by apply UInt8.toNat_inj.1; simpa using (by omega : x.toNat = 83))
          have d2 : ¬ (x.toNat : Int) = 84 := fun h => c2 (by apply UInt8.toNat_inj.1; simpa using (by omega : x.toNat = 84))
          have d3 : ¬ (x.toNat : Int) = 100 := fun h => c3 (by apply UInt8.toNat_inj.1; simpa using (by omega : x.toNat = 100))
          refine walk (both e3 (both e5 (both g3 (both hlt (both hx (both d1 (both d2 d3))))))) ?_
          exact Roundq.normal (sh.length - (i + 1)) (by omega) ⟨i + 1, by omega, rfl, rfl, by simp [e3], by simp⟩
        · refine walk (both e3 (both e5 (both g3 hlt))) ?_
          refine (lives_ok (lain_kept hL (kC.then kB))).mono fun v H4 _ ⟨kD, e1⟩ => ?_
          subst e1
          refine walk none0 ?_
          rfl
    · refine walk hg ?_
      refine (lives_ok (lain_kept hL (kC.then kB))).mono fun v H4 _ ⟨kD, e1⟩ => ?_
      subst e1
      refine walk none0 ?_
      rfl
  · rw [decide_eq_false h]
    refine walk none0 ?_
    refine (lives_ok (lain_kept hL kC)).mono fun v H4 _ ⟨kD, e1⟩ => ?_
    subst e1
    refine walk none0 ?_
    rfl
end Go.Abs

/- Chapter 15: CallsNames, walked. -/
namespace Go.Abs
open Go.Proofs
set_option maxRecDepth 100000
set_option linter.unusedVariables false
set_option linter.unusedSimpArgs false

def findP (s : Txt) (n : Int) (ok : Bool) : Prop := (n = 0 ∧ ok = false ∧ ∀ k < 64, (rowK k).nm ≠ s) ∨ ∃ i : Nat, i < 64 ∧ n = (i : Int) + 1 ∧ ok = true ∧ (rowK i).nm = s ∧ ∀ k < i, (rowK k).nm ≠ s
theorem findP_one {s : Txt} {n m : Int} {a b : Bool} (h : findP s n a) (g : findP s m b) : n = m ∧ a = b := by
  rcases h with ⟨rfl, rfl, h⟩ | ⟨i, hi, rfl, rfl, h, h'⟩ <;> rcases g with ⟨rfl, rfl, g⟩ | ⟨j, hj, rfl, rfl, g, g'⟩
  · exact ⟨rfl, rfl⟩
  · exact absurd g (h j hj)
  · exact absurd h (g i hi)
  · rcases Nat.lt_trichotomy i j with c | rfl | c
    · exact absurd h (g' i c)
    · exact ⟨rfl, rfl⟩
    · exact absurd g (h' j c)
theorem nm_run : ((List.range 64).all fun k => (List.range k).all fun i => (FT[i]?.getD []).headD [] != (FT[k]?.getD []).headD []) = true := by kernel_rfl
theorem nm_eq {k : Nat} (hk : k < 64) : (rowK k).nm = (FT[k]?.getD []).headD [] := by
  obtain ⟨nm, d, sh, rest, hl, _⟩ := ft_at k hk
  unfold rowK
  rw [hl]
  rfl
theorem findP_row {k : Nat} (hk : k < 64) : findP (rowK k).nm ((k : Int) + 1) true := by
  refine .inr ⟨k, hk, rfl, rfl, rfl, fun i hi => ?_⟩
  have h1 := List.all_eq_true.1 (List.all_eq_true.1 nm_run k (List.mem_range.2 hk)) i (List.mem_range.2 hi)
  rw [nm_eq hk, nm_eq (by omega)]
  simpa using h1
theorem Find_ok (s : Txt) {H : Heap} (hL : Lain S15 H) : Cl Tryd.prog pr15 12 [.str s] H fun r H' => Keep H H' ∧ ∃ n ok, r = .tuple [.int .i64 n, .bool ok] ∧ findP s n ok := by
  refine Cl.enter Tryd.func12 rfl rfl Tryd.ntmps12 (by simp) ?_
  refine walk none0 ?_
  refine Wq.loop (fun m e H' => ∃ i : Nat, i ≤ 64 ∧ m = 64 - i ∧ Keep H H' ∧ e 0 = .str s ∧ e 4 = .int .i64 ((i : Int) + 1) ∧ ∀ k < i, (rowK k).nm ≠ s) 64 ?_ ?_
  · exact ⟨0, by omega, by omega, Upd.rfl, by simp, by simp, fun k hk => by omega⟩
  · rintro m e H' ⟨i, hi, rfl, kA, e0, e4, hlo⟩
    by_cases hlt : i < 64
    · have hle : (i : Int) + 1 ≤ 64 := by omega
      obtain ⟨nm, d, sh, rest, hl, _⟩ := ft_at i hlt
      have hnm : (rowK i).nm = nm := by unfold rowK; rw [hl]
      refine walk (both e0 (both e4 hle)) ?_
      refine (fieldsN_ok i hlt hl (lain_kept hL kA)).mono fun v H1 _ ⟨kB, h⟩ => ?_
      obtain ⟨a, cap, ex, rfl, hc, hex⟩ := h.form
      have s0 := str_at h (i := 0) (x := nm) rfl
      obtain ⟨L, hLL⟩ : ∃ L, L = (nm :: [d] :: sh :: rest).length := ⟨_, rfl⟩
      have hL1 : 0 < L := by simp [hLL]
      rw [← hLL] at *
      obtain ⟨b, o, c, t, w, mk, rfl, _, hb1, hb2, hb3, hb4⟩ := s0
      rw [Nat.add_zero] at hb3 hb4
      by_cases hp : nm = s
      · subst hp
        refine walk (both e0 (both e4 (both hb2 (both hb3 (both hb4 hL1))))) ?_
        exact ⟨kA.then kB, _, _, rfl, .inr ⟨i, hlt, rfl, rfl, hnm, hlo⟩⟩
      · refine walk (both e0 (both e4 (both hb2 (both hb3 (both hb4 (both hL1 hp)))))) ?_
        refine Roundq.normal (64 - (i + 1)) (by omega) ⟨i + 1, by omega, rfl, kA.then kB, by simp [e0], by simp, fun k hk => ?_⟩
        rcases Nat.lt_or_ge k i with h' | h'
        · exact hlo k h'
        · obtain rfl : k = i := by omega
          rw [hnm]; exact hp
    · have hle : ¬ (i : Int) + 1 ≤ 64 := by omega
      obtain rfl : i = 64 := by omega
      refine walk (both e0 (both e4 hle)) ?_
      exact ⟨kA, _, _, rfl, .inl ⟨rfl, rfl, hlo⟩⟩
theorem refFind_ok (s : Txt) {H : Heap} (hL : Lain S15 H) : Cl Tryd.prog pr15 13 [.str s] H fun r H' => Keep H H' ∧ ∃ n ok, r = .tuple [.int .i64 n, .bool ok] ∧ findP s n ok := by
  refine Cl.enter Tryd.func13 rfl rfl Tryd.ntmps13 (by simp) ?_
  refine walk none0 ?_
  refine Wq.loop (fun m e H' => ∃ i : Nat, i ≤ 64 ∧ m = 64 - i ∧ Keep H H' ∧ e 0 = .str s ∧ e 4 = .int .i64 ((i : Int) + 1) ∧ ∀ k < i, (rowK k).nm ≠ s) 64 ?_ ?_
  · exact ⟨0, by omega, by omega, Upd.rfl, by simp, by simp, fun k hk => by omega⟩
  · rintro m e H' ⟨i, hi, rfl, kA, e0, e4, hlo⟩
    by_cases hlt : i < 64
    · have hle : (i : Int) + 1 ≤ 64 := by omega
      refine walk (both e0 (both e4 hle)) ?_
      refine (refGet_in i hlt (lain_kept hL kA)).mono fun v H1 _ ⟨kB, e1⟩ => ?_
      subst e1
      generalize hr : rowK i = r at *
      obtain ⟨nm, sh, gt, n0, n1⟩ := r
      have hnm : (rowK i).nm = nm := by rw [hr]
      unfold rowV
      simp only []
      have kC : Keep H ((H1.push (.cells [.str [], .str [], .int .i64 0, .int .u32 0, .int .u32 0] 30 true false)).set H1.next (.cells [.str nm, .str sh, .int .i64 gt, .int .u32 n0, .int .u32 n1] 30 true false)) := ((kA.then kB).push _).set _ (by simp) (by have := (kA.then kB).next; omega)
      by_cases hp : nm = s
      · subst hp
        refine walk (both e0 e4) ?_
        exact ⟨kC, _, _, rfl, .inr ⟨i, hlt, rfl, rfl, hnm, hlo⟩⟩
      · refine walk (both e0 (both e4 hp)) ?_
        refine Roundq.normal (64 - (i + 1)) (by omega) ⟨i + 1, by omega, rfl, kC, by simp [e0], by simp, fun k hk => ?_⟩
        rcases Nat.lt_or_ge k i with h' | h'
        · exact hlo k h'
        · obtain rfl : k = i := by omega
          rw [hnm]; exact hp
    · have hle : ¬ (i : Int) + 1 ≤ 64 := by omega
      obtain rfl : i = 64 := by omega
      refine walk (both e0 (both e4 hle)) ?_
      exact ⟨kA, _, _, rfl, .inl ⟨rfl, rfl, hlo⟩⟩
theorem callsNames_main (s : Txt) (no : Int) {H : Heap} (hL : Lain S15 H) : Cl Tryd.prog pr15 5 [.str s, .int .i64 no] H fun v _ => v = .bool true := by
  refine Cl.enter Tryd.func5 rfl rfl Tryd.ntmps5 (by simp) ?_
  by_cases hs : 200 < s.length
  · refine walk hs ?_
    refine (Find_ok (s.take 200) hL).mono fun v H1 _ ⟨kA, n, ok, e1, hf⟩ => ?_
    subst e1
    refine walk none0 ?_
    refine (refFind_ok (s.take 200) (lain_kept hL kA)).mono fun v H2 _ ⟨kB, n', ok', e1, hf'⟩ => ?_
    subst e1
    obtain ⟨rfl, rfl⟩ := findP_one hf hf'
    have hL2 := lain_kept hL (kA.then kB)
    refine walk none0 ?_
    refine (Get_all no hL2).mono fun v H3 _ ⟨kC, e1⟩ => ?_
    subst e1
    have hrow : inT no → findP (rowI no).nm no true := fun h => by
      obtain ⟨k, hk, rfl, e⟩ := inT_of h
      rw [e]
      exact findP_row hk
    generalize rowI no = r at *
    obtain ⟨nm, sh, gt, n0, n1⟩ := r
    unfold rowV
    simp only []
    refine walk none0 ?_
    have kD : Keep H2 ((H3.push (.cells [.str [], .str [], .int .i64 0, .int .u32 0, .int .u32 0] 30 true false)).set H3.next (.cells [.str nm, .str sh, .int .i64 gt, .int .u32 n0, .int .u32 n1] 30 true false)) := (kC.push _).set _ (by simp) (by have := kC.next; omega)
    have hL3 := lain_kept hL2 kD
    generalize (H3.push (.cells [.str [], .str [], .int .i64 0, .int .u32 0, .int .u32 0] 30 true false)).set H3.next (.cells [.str nm, .str sh, .int .i64 gt, .int .u32 n0, .int .u32 n1] 30 true false) = H4 at *
    refine (Find_ok nm hL3).mono fun v H5 _ ⟨kE, m, fd, e1, hm⟩ => ?_
    subst e1
    have hL5 := lain_kept hL3 kE
    by_cases h : inT no
    · obtain ⟨rfl, rfl⟩ := findP_one hm (hrow h)
      rw [decide_eq_true h]
      refine walk none0 ?_
      refine (lives_ok hL5).mono fun v H6 _ ⟨_, e1⟩ => ?_
      subst e1
      refine walk none0 ?_
      rfl
    · rw [decide_eq_false h]
      refine walk none0 ?_
      refine (lives_ok hL5).mono fun v H6 _ ⟨_, e1⟩ => ?_
      subst e1
      refine walk none0 ?_
      rfl
  · refine walk hs ?_
    refine (Find_ok s hL).mono fun v H1 _ ⟨kA, n, ok, e1, hf⟩ => ?_
    subst e1
    refine walk none0 ?_
    refine (refFind_ok s (lain_kept hL kA)).mono fun v H2 _ ⟨kB, n', ok', e1, hf'⟩ => ?_
    subst e1
    obtain ⟨rfl, rfl⟩ := findP_one hf hf'
    have hL2 := lain_kept hL (kA.then kB)
    refine walk none0 ?_
    refine (Get_all no hL2).mono fun v H3 _ ⟨kC, e1⟩ => ?_
    subst e1
    have hrow : inT no → findP (rowI no).nm no true := fun h => by
      obtain ⟨k, hk, rfl, e⟩ := inT_of h
      rw [e]
      exact findP_row hk
    generalize rowI no = r at *
    obtain ⟨nm, sh, gt, n0, n1⟩ := r
    unfold rowV
    simp only []
    refine walk none0 ?_
    have kD : Keep H2 ((H3.push (.cells [.str [], .str [], .int .i64 0, .int .u32 0, .int .u32 0] 30 true false)).set H3.next (.cells [.str nm, .str sh, .int .i64 gt, .int .u32 n0, .int .u32 n1] 30 true false)) := (kC.push _).set _ (by simp) (by have := kC.next; omega)
    have hL3 := lain_kept hL2 kD
    generalize (H3.push (.cells [.str [], .str [], .int .i64 0, .int .u32 0, .int .u32 0] 30 true false)).set H3.next (.cells [.str nm, .str sh, .int .i64 gt, .int .u32 n0, .int .u32 n1] 30 true false) = H4 at *
    refine (Find_ok nm hL3).mono fun v H5 _ ⟨kE, m, fd, e1, hm⟩ => ?_
    subst e1
    have hL5 := lain_kept hL3 kE
    by_cases h : inT no
    · obtain ⟨rfl, rfl⟩ := findP_one hm (hrow h)
      rw [decide_eq_true h]
      refine walk none0 ?_
      refine (lives_ok hL5).mono fun v H6 _ ⟨_, e1⟩ => ?_
      subst e1
      refine walk none0 ?_
      rfl
    · rw [decide_eq_false h]
      refine walk none0 ?_
      refine (lives_ok hL5).mono fun v H6 _ ⟨_, e1⟩ => ?_
      subst e1
      refine walk none0 ?_
      rfl
end Go.Abs

/- Chapter 15: the groups. -/
namespace Go.Abs
open Go.Proofs
set_option maxRecDepth 100000
set_option linter.unusedVariables false
set_option linter.unusedSimpArgs false

def GTBL : Txt := [100, 105, 114, 99, 97, 108, 108, 115, 32, 53, 32, 56, 32, 57, 32, 49, 48, 32, 49, 49, 32, 49, 50, 32, 49, 51, 32, 50, 50, 32, 50, 51, 32, 50, 52, 32, 50, 56, 32, 51, 51, 32, 51, 52, 32, 51, 53, 32, 51, 54, 32, 51, 55, 32, 51, 56, 32, 51, 57, 32, 52, 48, 10, 102, 115, 99, 97, 108, 108, 115, 32, 51, 32, 52, 32, 54, 32, 49, 55, 32, 49, 56, 32, 50, 48, 32, 50, 49, 32, 50, 53, 32, 50, 54, 32, 50, 55, 32, 50, 57, 32, 51, 48, 32, 51, 49, 32, 51, 50, 10, 105, 112, 99, 99, 97, 108, 108, 115, 32, 49, 57, 32, 52, 49, 32, 52, 50, 32, 52, 51, 32, 52, 52, 32, 52, 53, 32, 52, 54, 32, 52, 55, 32, 52, 56, 32, 52, 57, 32, 53, 48, 32, 53, 49, 10, 112, 114, 111, 99, 99, 97, 108, 108, 115, 32, 49, 32, 50, 32, 55, 32, 49, 52, 32, 49, 53, 32, 49, 54, 32, 53, 51, 32, 53, 52, 32, 53, 53, 32, 53, 54, 10, 99, 97, 112, 99, 97, 108, 108, 115, 32, 53, 55, 32, 53, 56, 32, 53, 57, 32, 54, 48, 32, 54, 49, 32, 54, 50, 32, 54, 51, 32, 54, 52, 10, 112, 111, 108, 108, 115, 32, 53, 50]
def GT : List (List Txt) := [[[100, 105, 114, 99, 97, 108, 108, 115], [53], [56], [57], [49, 48], [49, 49], [49, 50], [49, 51], [50, 50], [50, 51], [50, 52], [50, 56], [51, 51], [51, 52], [51, 53], [51, 54], [51, 55], [51, 56], [51, 57], [52, 48]],
  [[102, 115, 99, 97, 108, 108, 115], [51], [52], [54], [49, 55], [49, 56], [50, 48], [50, 49], [50, 53], [50, 54], [50, 55], [50, 57], [51, 48], [51, 49], [51, 50]],
  [[105, 112, 99, 99, 97, 108, 108, 115], [49, 57], [52, 49], [52, 50], [52, 51], [52, 52], [52, 53], [52, 54], [52, 55], [52, 56], [52, 57], [53, 48], [53, 49]],
  [[112, 114, 111, 99, 99, 97, 108, 108, 115], [49], [50], [55], [49, 52], [49, 53], [49, 54], [53, 51], [53, 52], [53, 53], [53, 54]],
  [[99, 97, 112, 99, 97, 108, 108, 115], [53, 55], [53, 56], [53, 57], [54, 48], [54, 49], [54, 50], [54, 51], [54, 52]],
  [[112, 111, 108, 108, 115], [53, 50]]]
theorem gt_split : (splitB 10 GTBL).map Lib.fields = GT := by
  have : ((splitB 10 GTBL).map Lib.fields == GT) = true := by kernel_rfl
  exact beq_iff_eq.1 this
theorem gt_low : ∀ x ∈ splitB 10 GTBL, x.length < 4294967281 ∧ x.all (fun b => decide (b.toNat < 128)) = true ∧ (Lib.fields x).length ≤ 1000 ∧ 1 ≤ (Lib.fields x).length := by
  have : (splitB 10 GTBL).all (fun x => decide (x.length < 4294967281) && x.all (fun b => decide (b.toNat < 128)) && decide ((Lib.fields x).length ≤ 1000) && decide (1 ≤ (Lib.fields x).length)) = true := by kernel_rfl
  intro x hx
  have := List.all_eq_true.1 this x hx
  simp only [Bool.and_eq_true, decide_eq_true_eq] at this
  exact ⟨this.1.1.1, this.1.1.2, this.1.2, this.2⟩
/-- The iterator over a text's pieces between bytes, and what it holds. -/
def SeqC (c : UInt8) (s : Txt) (H H' : Heap) (v : AV) : Prop := Keep H H' ∧ ∃ b1 b2 b3 t1 t2 t3 m1 m2 m3, v = .func (.func 36) [] [.ptr (some (b1, 0)), .ptr (some (b2, 0)), .ptr (some (b3, 0))] ∧ H.next ≤ b1 ∧ H.next ≤ b2 ∧ H.next ≤ b3 ∧ b1 < H'.next ∧ b2 < H'.next ∧ b3 < H'.next ∧ b1 ≠ b2 ∧ b1 ≠ b3 ∧ b2 ≠ b3 ∧
  H'.get b1 = some (.cells [.str [c]] t1 true m1) ∧ H'.get b2 = some (.cells [.str s] t2 true m2) ∧ H'.get b3 = some (.cells [.int .i64 0] t3 true m3)
theorem seqC29_ok (c : UInt8) (s : Txt) (H : Heap) : Cl Tryd.prog pr15 29 [.str s, .str [c], .int .i64 0] H fun r H' => SeqC c s H H' r := by
  refine Cl.enter Tryd.func29 rfl rfl Tryd.ntmps29 (by simp) ?_
  refine walk none0 ?_
  refine ⟨((Upd.rfl.push _).push _).push _, _, _, _, 9, 9, 3, false, false, false, rfl, by omega, by omega, by omega, by simp, by simp; omega, by simp, by omega, by omega, by omega, ?_, ?_, ?_⟩ <;> simp (disch := omega) [ineg]
theorem seqC_ok (c : UInt8) (s : Txt) (H : Heap) : Cl Tryd.prog pr15 21 [.str s, .str [c]] H fun r H' => SeqC c s H H' r := by
  refine Cl.enter Tryd.func21 rfl rfl Tryd.ntmps21 (by simp) ?_
  refine walk none0 ?_
  refine (seqC29_ok c s H).mono fun v H1 _ h => ?_
  refine walk none0 ?_
  exact h
theorem splitC_ok {c : UInt8} {s : Txt} {H H' : Heap} {lb : List AV} (h : SeqC c s H H' (.func (.func 36) [] lb)) (hs : s.length ≤ 1000000) : Cl Tryd.prog pr15 (Tryd.prog.funcs.size + 36) (AV.ask :: lb) H' fun v H2 => v = .tuple (strs (splitB c s)) ∧ Keep H H2 := by
  obtain ⟨k, b1, b2, b3, t1, t2, t3, m1, m2, m3, e, a1, a2, a3, l1, l2, l3, n12, n13, n23, h1, h2, h3⟩ := h
  injection e with _ _ e
  subst e
  refine Cl.prim (g := splitP) split_prim (v := .tuple (strs (splitB c s))) (H' := ((H'.set b1 .dead).set b2 .dead).set b3 .dead) ?_ ⟨rfl, ?_⟩
  · unfold AV.ask splitP
    simp only [h1, h2, h3]
    rw [if_pos ⟨n12, n13, n23, hs⟩]
    rfl
  · exact ((k.set _ l1 (by omega)).set _ (by simp; omega) (by omega)).set _ (by simp; omega) (by omega)
theorem Ss.tail {H : Heap} {b o L cap : Nat} {ex : Option Nat} {x : Txt} {l : List Txt} (h : Ss H (.slice (some (b, o)) L cap ex) (x :: l)) : Ss H (.slice (some (b, o + 1)) l.length (cap - 1) ex) l := by
  obtain ⟨a', cap', ex', e, hc, hex⟩ := Ss.form h
  injection e with e1 e2 e3 e4
  subst e2; subst e3; subst e4
  have h' := Sl.sub h (k := 1) (m := l.length) (cap' := cap - 1) (ex' := ex) (by simp; omega) (by simp at hc; omega) hex
  unfold Ss
  simpa [strs, List.take_of_length_le] using h'
theorem has_ok25 {H : Heap} {v : AV} {l : List Txt} {s : Txt} (h : Ss H v l) (hL : l.length ≤ 100000) : Cl Tryd.prog pr15 25 [v, .str s] H fun w H' => H' = H ∧ w = .bool (decide (s ∈ l)) := by
  refine Cl.enter Tryd.func25 rfl rfl Tryd.ntmps25 (by simp) ?_
  obtain ⟨a, cap, ex, rfl, hc, hex⟩ := h.form
  refine walk none0 ?_
  refine (idx_ok h hL).mono fun w H2 _ ⟨e0, hw⟩ => ?_
  subst e0
  rcases hw with ⟨rfl, hw⟩ | ⟨i, rfl, hi, hlo⟩
  · refine walk none0 ?_
    exact ⟨rfl, by rw [decide_eq_false hw]⟩
  · refine walk none0 ?_
    exact ⟨rfl, by rw [decide_eq_true (List.mem_of_getElem? hi)]⟩
def dig1 (n : Nat) : Txt := [UInt8.ofNat (48 + n)]
def digT (n : Int) : Txt := if n < 0 ∨ 64 < n then [] else if n < 10 then dig1 n.toNat else dig1 (n.toNat / 10) ++ dig1 (n.toNat % 10)
theorem dig1_ok (n : Nat) (hn : n < 10) (H : Heap) : Cl Tryd.prog pr15 23 [.int .i64 n] H fun r H' => Keep H H' ∧ r = .str (dig1 n) := by
  have h1 : ¬ (n : Int) < 0 := by omega
  have h2 : ¬ 64 < (n : Int) := by omega
  have h3 : (n : Int) < 10 := by omega
  refine Cl.enter Tryd.func23 rfl rfl Tryd.ntmps23 (by simp) ?_
  have hw : IntKind.u8.wrap (48 + (n : Int)) = ((48 + n : Nat) : Int) := by simp [IntKind.wrap, IntKind.signed, IntKind.bits]; omega
  refine walk (both h1 (both h2 h3)) ?_
  exact ⟨Upd.rfl.push _, by rw [hw]; rfl⟩
theorem dig_ok (n : Int) (H : Heap) : Cl Tryd.prog pr15 23 [.int .i64 n] H fun r H' => Keep H H' ∧ r = .str (digT n) := by
  unfold digT
  by_cases h1 : n < 0
  · rw [if_pos (.inl h1)]
    refine Cl.enter Tryd.func23 rfl rfl Tryd.ntmps23 (by simp) ?_
    refine walk h1 ?_
    exact ⟨Upd.rfl, rfl⟩
  · by_cases h2 : 64 < n
    · rw [if_pos (.inr h2)]
      refine Cl.enter Tryd.func23 rfl rfl Tryd.ntmps23 (by simp) ?_
      refine walk (both h1 h2) ?_
      exact ⟨Upd.rfl, rfl⟩
    · rw [if_neg (by omega)]
      obtain ⟨m, rfl⟩ : ∃ m : Nat, n = m := ⟨n.toNat, by omega⟩
      by_cases h3 : (m : Int) < 10
      · rw [if_pos h3]
        exact dig1_ok m (by omega) H
      · rw [if_neg h3]
        have e1 : IntKind.i64.wrap ((m : Int).tdiv 10) = ((m / 10 : Nat) : Int) := by
          rw [Int.tdiv_eq_ediv_of_nonneg (by omega)]; simp [IntKind.wrap, IntKind.signed, IntKind.bits]; omega
        have e2 : IntKind.i64.wrap ((m : Int).tmod 10) = ((m % 10 : Nat) : Int) := by
          rw [Int.tmod_eq_emod_of_nonneg (by omega)]; simp [IntKind.wrap, IntKind.signed, IntKind.bits]; omega
        refine Cl.enter Tryd.func23 rfl rfl Tryd.ntmps23 (by simp) ?_
        refine walk (both h1 (both h2 (both h3 (both e1 e2)))) ?_
        refine (dig1_ok (m / 10) (by omega) H).mono fun v H1 _ ⟨kA, ea⟩ => ?_
        subst ea
        refine walk (both e1 e2) ?_
        refine (dig1_ok (m % 10) (by omega) H1).mono fun v H2 _ ⟨kB, eb⟩ => ?_
        subst eb
        have hl1 : (dig1 (m / 10)).length = 1 := rfl
        have hl2 : (dig1 (m % 10)).length = 1 := rfl
        rw [show (m : Int).toNat = m by omega]
        generalize dig1 (m / 10) = x at *
        generalize dig1 (m % 10) = y at *
        refine walk (both hl1 hl2) ?_
        exact ⟨kA.then kB, rfl⟩
end Go.Abs

/- Chapter 15: CallsTable, walked. -/
namespace Go.Abs
open Go.Proofs
set_option maxRecDepth 100000
set_option linter.unusedVariables false
set_option linter.unusedSimpArgs false

def grpT (s : Txt) : List (List Txt) → Txt
  | [] => []
  | l :: r => if s ∈ l.drop 1 then l.headD [] else grpT s r
structure PQ (H H' : Heap) (bS : Nat) (s : Txt) : Prop where
  keep : Keep H H'
  g2 : H'.get H.next = some (.cells [.str []] 9 true false)
  g3 : H'.get bS = some (.cells [.str s] 9 true false)
  lo : H.next < bS
  lt : bS < H'.next
theorem PQ.kept {H H' H2 : Heap} {bS : Nat} {s : Txt} (h : PQ H H' bS s) (k : Keep H' H2) : PQ H H2 bS s :=
  have hl := h.lt
  have ho := h.lo
  ⟨h.keep.then k, (k.get (by omega)).trans h.g2, (k.get (by omega)).trans h.g3, ho, Nat.lt_of_lt_of_le hl k.next⟩
theorem Group_ok (no : Int) {H : Heap} (hL : Lain S15 H) : Cl Tryd.prog pr15 15 [.int .i64 no] H fun r H' => Keep H H' ∧ r = .str (grpT (digT no) GT) := by
  have hgs := gt_split
  have hlow := gt_low
  have hGL : GTBL.length ≤ 1000000 := of_decide_eq_true (by kernel_rfl)
  have hseq := seqC_ok 10 GTBL
  refine Cl.enter Tryd.func15 rfl rfl Tryd.ntmps15 (by simp) ?_
  refine walk none0 ?_
  refine (dig_ok no _).mono fun v H1 _ ⟨kA, e1⟩ => ?_
  subst e1
  generalize digT no = s at *
  refine walk none0 ?_
  have k0 : Keep H (H.push (.cells [.str []] 9 true false)) := Upd.rfl.push _
  have g0 : (H.push (.cells [.str []] 9 true false)).get H.next = some (.cells [.str []] 9 true false) := by simp
  have n0 : H.next < (H.push (.cells [.str []] 9 true false)).next := by simp
  have hP : PQ H ((H1.push (AObj.cells [AV.str []] 9 true false)).set H1.next (AObj.cells [AV.str s] 9 true false)) H1.next s := by
    have hn := kA.next
    refine ⟨((k0.then kA).push _).set _ (by simp) (by omega), ?_, by simp, by omega, by simp⟩
    rw [Heap.get_set_ne _ _ (by omega), Heap.get_push, if_neg (by omega)]
    exact (kA.get n0).trans g0
  generalize hbS : H1.next = bS at *
  generalize (H1.push (AObj.cells [AV.str []] 9 true false)).set bS (AObj.cells [AV.str s] 9 true false) = H2 at *
  refine Cl.mono (hseq H2) fun v H3 _ hv => ?_
  obtain ⟨lb, rfl⟩ : ∃ lb, v = .func (.func 36) [] lb := by obtain ⟨_, b1, b2, b3, t1, t2, t3, m1, m2, m3, e, _⟩ := hv; exact ⟨_, e⟩
  refine walk none0 ?_
  refine Wq.rangeFunc (gf := 36) (lb := lb) rfl (by simp) (fun zs H' => ∃ l, zs = strs l ∧ PQ H H' bS s ∧ (∀ x ∈ l, x ∈ splitB 10 GTBL) ∧ grpT s (l.map Lib.fields) = grpT s GT) ?_ ?_ ?_
  · refine (splitC_ok hv hGL).mono fun v H6 _ ⟨e, k⟩ => ?_
    exact ⟨_, e, _, rfl, hP.kept k, fun x hx => hx, by rw [hgs]⟩
  · rintro z zs H' ⟨l, hz, hP', hin, ho⟩
    obtain ⟨y, r, rfl, rfl, rfl⟩ : ∃ x r, l = x :: r ∧ z = .str x ∧ zs = strs r := by
      cases l with
      | nil => cases hz
      | cons x r => injection hz with h1 h2; exact ⟨x, r, rfl, h1, h2⟩
    obtain ⟨w1, w2, w3, w4⟩ := hlow y (hin y (by simp))
    have hin' : ∀ x ∈ r, x ∈ splitB 10 GTBL := fun x hx => hin x (List.mem_cons_of_mem _ hx)
    rw [List.map_cons, grpT] at ho
    refine walk none0 ?_
    refine (fields_ok (lain_kept hL hP'.keep) w1 w2).mono fun v H6 _ ⟨kB, hw⟩ => ?_
    have hP6 := hP'.kept kB
    have q2 := hP6.g2
    have q3 := hP6.g3
    generalize Lib.fields y = F at *
    obtain ⟨f0, fr, rfl⟩ : ∃ a b, F = a :: b := by
      cases F with
      | nil => simp at w4
      | cons a b => exact ⟨a, b, rfl⟩
    obtain ⟨a, cap, ex, rfl, hc, hex⟩ := hw.form
    have s0 := str_at hw (i := 0) (x := f0) rfl
    obtain ⟨b, o, c, t, w, mk, rfl, _, hb1, hb2, hb3, hb4⟩ := s0
    rw [Nat.add_zero] at hb3 hb4
    have hcut : sliceR Tryd.prog 40 (some (.slice (some (b, o)) (f0 :: fr).length cap ex)) (some (some (.int .i64 1))) (some none) (some none) H6 = some (.slice (some (b, o + 1)) fr.length (cap - 1) ex, H6) := by
      rw [slc_l hc, elemS40]
      simp only [slcR]
      simp only [List.length_cons] at hc ⊢
      rw [if_pos (by omega), if_pos hex]
      simp only [Bool.false_eq_true, if_false]
      rw [show (o + Int.toNat 1 * 1) = o + 1 by simp, show (((fr.length + 1 : Nat) : Int) - 1).toNat = fr.length by omega, show ((cap : Int) - 1).toNat = cap - 1 by omega]
    have htl := hw.tail
    obtain ⟨L, hLL⟩ : ∃ L, L = (f0 :: fr).length := ⟨_, rfl⟩
    have hL1 : 0 < L := by simp [hLL]
    have hfl : fr.length ≤ 100000 := by simp only [List.length_cons] at w3; omega
    rw [← hLL] at hcut
    rw [← hLL]
    refine walk none0 ?_
    refine Wq.regionD [0, 1, 2, 3] (by kernel_rfl) ?_
    refine walk (both hcut q3) ?_
    refine (has_ok25 htl hfl).mono fun v H7 _ ⟨e0, e1⟩ => ?_
    subst e0; subst e1
    by_cases hm : s ∈ fr
    · have ho : f0 = grpT s GT := by rw [← ho]; exact (if_pos hm).symm
      rw [decide_eq_true hm, ← ho]
      refine walk (both hb2 (both hb3 (both hb4 (both hL1 q2)))) ?_
      exact ⟨hP6.keep.set _ (by have := hP6.lo; have := hP6.lt; omega) (by omega), rfl⟩
    · have ho : grpT s (r.map Lib.fields) = grpT s GT := by rw [← ho]; exact (if_neg hm).symm
      rw [decide_eq_false hm]
      refine walk none0 ?_
      exact ⟨r, rfl, hP6, hin', ho⟩
  · rintro H' ⟨l, hz, hP', hin, ho⟩
    have hl : l = [] := by cases l with
      | nil => rfl
      | cons x r => cases hz
    subst hl
    have ho : [] = grpT s GT := ho
    rw [← ho]
    have q2 := hP'.g2
    refine walk q2 ?_
    exact ⟨hP'.keep.set _ (by have := hP'.lo; have := hP'.lt; omega) (by omega), rfl⟩
theorem refGroup_no (no : Int) (h : ¬ inT no) (H : Heap) : Cl Tryd.prog pr15 16 [.int .i64 no] H fun r H' => H' = H ∧ r = .str [] := by
  refine Cl.enter Tryd.func16 rfl rfl Tryd.ntmps16 (by simp) ?_
  by_cases h1 : no < 1
  · refine walk h1 ?_
    exact ⟨rfl, rfl⟩
  · have h2 : 64 < no := by unfold inT at h; omega
    refine walk (both h1 h2) ?_
    exact ⟨rfl, rfl⟩
def refGrp (k : Nat) : Txt := if 57 ≤ k then [99, 97, 112, 99, 97, 108, 108, 115] else if k = 52 then [112, 111, 108, 108, 115] else
  if k = 1 ∨ k = 2 ∨ k = 7 ∨ (14 ≤ k ∧ k ≤ 16) ∨ 53 ≤ k then [112, 114, 111, 99, 99, 97, 108, 108, 115] else
  if k = 19 ∨ 41 ≤ k then [105, 112, 99, 99, 97, 108, 108, 115] else
  if k = 5 ∨ (8 ≤ k ∧ k ≤ 13) ∨ (22 ≤ k ∧ k ≤ 24) ∨ k = 28 ∨ 33 ≤ k then [100, 105, 114, 99, 97, 108, 108, 115] else [102, 115, 99, 97, 108, 108, 115]
theorem grp_run : ((List.range 64).all fun k => grpT (digT ((k : Int) + 1)) GT == refGrp (k + 1)) = true := by kernel_rfl
theorem grp_in {no : Int} (h : inT no) : ∃ k : Nat, k < 65 ∧ 1 ≤ k ∧ no = k ∧ grpT (digT no) GT = refGrp k := by
  obtain ⟨k, hk, rfl, e⟩ := inT_of h
  have h1 := List.all_eq_true.1 grp_run k (List.mem_range.2 hk)
  exact ⟨k + 1, by omega, by omega, by omega, beq_iff_eq.1 h1⟩
theorem gt_nonil : (GT.all fun l => l.drop 1 |>.all fun x => x != []) = true := by kernel_rfl
theorem grp_nil : ∀ {l : List (List Txt)}, (l.all fun l => l.drop 1 |>.all fun x => x != []) = true → grpT [] l = []
  | [], _ => rfl
  | x :: r, h => by
    simp only [List.all_cons, Bool.and_eq_true] at h
    rw [grpT, if_neg, grp_nil h.2]
    intro hm
    have := List.all_eq_true.1 h.1 [] hm
    simp at this
theorem grp_out {no : Int} (h : ¬ inT no) : grpT (digT no) GT = [] := by
  by_cases h0 : no = 0
  · subst h0
    have : (grpT (digT 0) GT == []) = true := by kernel_rfl
    exact beq_iff_eq.1 this
  · have : digT no = [] := if_pos (by unfold inT at h; omega)
    rw [this]
    exact grp_nil gt_nonil
set_option maxHeartbeats 4000000 in
theorem refGroup_in (k : Nat) (h1 : 1 ≤ k) (h2 : k < 65) (H : Heap) : Cl Tryd.prog pr15 16 [.int .i64 k] H fun r H' => H' = H ∧ r = .str (refGrp k) := by
  rcases (by omega : k = 1 ∨ k = 2 ∨ k = 3 ∨ k = 4 ∨ k = 5 ∨ k = 6 ∨ k = 7 ∨ k = 8 ∨ k = 9 ∨ k = 10 ∨ k = 11 ∨ k = 12 ∨ k = 13 ∨ k = 14 ∨ k = 15 ∨ k = 16 ∨ k = 17 ∨ k = 18 ∨ k = 19 ∨ k = 20 ∨ k = 21 ∨ k = 22 ∨ k = 23 ∨ k = 24 ∨ k = 25 ∨ k = 26 ∨ k = 27 ∨ k = 28 ∨ k = 29 ∨ k = 30 ∨ k = 31 ∨ k = 32 ∨ k = 33 ∨ k = 34 ∨ k = 35 ∨ k = 36 ∨ k = 37 ∨ k = 38 ∨ k = 39 ∨ k = 40 ∨ k = 41 ∨ k = 42 ∨ k = 43 ∨ k = 44 ∨ k = 45 ∨ k = 46 ∨ k = 47 ∨ k = 48 ∨ k = 49 ∨ k = 50 ∨ k = 51 ∨ k = 52 ∨ k = 53 ∨ k = 54 ∨ k = 55 ∨ k = 56 ∨ k = 57 ∨ k = 58 ∨ k = 59 ∨ k = 60 ∨ k = 61 ∨ k = 62 ∨ k = 63 ∨ k = 64) with rfl | rfl | rfl | rfl | rfl | rfl | rfl | rfl | rfl | rfl | rfl | rfl | rfl | rfl | rfl | rfl | rfl | rfl | rfl | rfl | rfl | rfl | rfl | rfl | rfl | rfl | rfl | rfl | rfl | rfl | rfl | rfl | rfl | rfl | rfl | rfl | rfl | rfl | rfl | rfl | rfl | rfl | rfl | rfl | rfl | rfl | rfl | rfl | rfl | rfl | rfl | rfl | rfl | rfl | rfl | rfl | rfl | rfl | rfl | rfl | rfl | rfl | rfl | rfl
  all_goals
    refine Cl.enter Tryd.func16 rfl rfl Tryd.ntmps16 (by simp) ?_
    refine walk none0 ?_
    exact ⟨rfl, rfl⟩
end Go.Abs

/- Chapter 15: CallsTable, walked. -/
namespace Go.Abs
open Go.Proofs
set_option maxRecDepth 100000
set_option linter.unusedVariables false
set_option linter.unusedSimpArgs false

theorem refGroup_ok (no : Int) (H : Heap) : Cl Tryd.prog pr15 16 [.int .i64 no] H fun r H' => H' = H ∧ r = .str (grpT (digT no) GT) := by
  by_cases h : inT no
  · obtain ⟨k, h1, h2, rfl, e⟩ := grp_in h
    rw [e]
    exact refGroup_in k h2 h1 H
  · rw [grp_out h]
    exact refGroup_no no h H
theorem callsTable_main (no : Int) {H : Heap} (hL : Lain S15 H) : Cl Tryd.prog pr15 6 [.int .i64 no] H fun v _ => v = .bool true := by
  refine Cl.enter Tryd.func6 rfl rfl Tryd.ntmps6 (by simp) ?_
  refine walk none0 ?_
  refine (Get_all no hL).mono fun v H1 _ ⟨kA, e1⟩ => ?_
  subst e1
  have hr := refGet_all no (H := ((H1.push (.cells [.str [], .str [], .int .i64 0, .int .u32 0, .int .u32 0] 30 true false)).set H1.next (.cells [.str (rowI no).nm, .str (rowI no).sh, .int .i64 (rowI no).gt, .int .u32 (rowI no).n0, .int .u32 (rowI no).n1] 30 true false))) (lain_kept hL ((kA.push _).set _ (by simp) (by have := kA.next; omega)))
  have hq := eqC (rowI no)
  generalize rowI no = r at *
  obtain ⟨nm, sh, gt, n0, n1⟩ := r
  unfold rowV at *
  simp only [] at *
  refine walk none0 ?_
  have k1 : Keep H ((H1.push (.cells [.str [], .str [], .int .i64 0, .int .u32 0, .int .u32 0] 30 true false)).set H1.next (.cells [.str nm, .str sh, .int .i64 gt, .int .u32 n0, .int .u32 n1] 30 true false)) := (kA.push _).set _ (by simp) (by have := kA.next; omega)
  have g1 : ((H1.push (.cells [.str [], .str [], .int .i64 0, .int .u32 0, .int .u32 0] 30 true false)).set H1.next (.cells [.str nm, .str sh, .int .i64 gt, .int .u32 n0, .int .u32 n1] 30 true false)).get H1.next = some (.cells [.str nm, .str sh, .int .i64 gt, .int .u32 n0, .int .u32 n1] 30 true false) := by simp
  have l1 : H1.next < ((H1.push (.cells [.str [], .str [], .int .i64 0, .int .u32 0, .int .u32 0] 30 true false)).set H1.next (.cells [.str nm, .str sh, .int .i64 gt, .int .u32 n0, .int .u32 n1] 30 true false)).next := by simp
  generalize (H1.push (.cells [.str [], .str [], .int .i64 0, .int .u32 0, .int .u32 0] 30 true false)).set H1.next (.cells [.str nm, .str sh, .int .i64 gt, .int .u32 n0, .int .u32 n1] 30 true false) = H2 at *
  refine hr.mono fun v H3 _ ⟨kB, e1⟩ => ?_
  subst e1
  have g3 := (kB.get l1).trans g1
  have l3 : H1.next < H3.next := Nat.lt_of_lt_of_le l1 kB.next
  have gg : ∀ c, ((H3.push (.cells [.str [], .str [], .int .i64 0, .int .u32 0, .int .u32 0] 30 true false)).set H3.next c).get H1.next = some (.cells [.str nm, .str sh, .int .i64 gt, .int .u32 n0, .int .u32 n1] 30 true false) := fun c => by
    rw [Heap.get_set_ne _ _ (by omega), Heap.get_push, if_neg (by omega)]; exact g3
  refine walk (both hq gg) ?_
  have k3 : Keep H ((H3.push (.cells [.str [], .str [], .int .i64 0, .int .u32 0, .int .u32 0] 30 true false)).set H3.next (.cells [.str nm, .str sh, .int .i64 gt, .int .u32 n0, .int .u32 n1] 30 true false)) := ((k1.then kB).push _).set _ (by simp) (by have := (k1.then kB).next; omega)
  refine (Group_ok no (lain_kept hL k3)).mono fun v H4 _ ⟨kC, e1⟩ => ?_
  subst e1
  refine walk none0 ?_
  refine (refGroup_ok no H4).mono fun v H5 _ ⟨e0, e1⟩ => ?_
  subst e0; subst e1
  generalize grpT (digT no) GT = z
  refine walk none0 ?_
  refine (lives_ok (lain_kept hL (k3.then kC))).mono fun v H6 _ ⟨_, e1⟩ => ?_
  subst e1
  refine walk none0 ?_
  rfl
end Go.Abs

/- Chapter 15: the bits of flags. -/
namespace Go.Abs
open Go.Proofs
set_option maxRecDepth 100000
set_option linter.unusedVariables false
set_option linter.unusedSimpArgs false

def bitN (n : Int) (i : Nat) : Bool := ((n % 2 ^ IntKind.i64.bits).toNat).testBit i
def othN (n : Int) : Bool := (List.range 64).any fun i => bitN n i && decide (3 < i ∧ (i < 8 ∨ 11 < i) ∧ i ≠ 17)
theorem bits64 : IntKind.i64.bits = 64 := rfl
theorem modN_lt (n : Int) : (n % 2 ^ IntKind.i64.bits).toNat < 2 ^ 64 := by rw [bits64]; omega
theorem wrap_small {x : Nat} (h : x < 2 ^ 63) : IntKind.i64.wrap (x : Int) = x := by simp [IntKind.wrap, IntKind.signed, IntKind.bits]; omega
theorem wrap_zero {x : Nat} (h : x < 2 ^ 64) : IntKind.i64.wrap (x : Int) = 0 ↔ x = 0 := by
  constructor
  · intro e; simp [IntKind.wrap, IntKind.signed, IntKind.bits] at e; omega
  · rintro rfl; rfl
theorem and_three (n : Int) : IntKind.i64.wrap (((n % 2 ^ IntKind.i64.bits).toNat &&& 3 % 2 ^ IntKind.i64.bits : Nat) : Int) = (if bitN n 0 then 1 else 0) + (if bitN n 1 then 2 else 0) := by
  unfold bitN
  generalize (n % 2 ^ IntKind.i64.bits).toNat = m
  have h : m &&& 3 % 2 ^ IntKind.i64.bits = m % 4 := Nat.and_two_pow_sub_one_eq_mod m 2
  rw [h, wrap_small (by omega)]
  simp only [Nat.testBit_eq_decide_div_mod_eq]
  by_cases h0 : m / 2 ^ 0 % 2 = 1 <;> by_cases h1 : m / 2 ^ 1 % 2 = 1 <;> simp only [h0, h1, decide_true, decide_false, if_true, if_false, Bool.false_eq_true] <;> omega
theorem and_pow (n : Int) (k : Nat) (hk : k < 63) : IntKind.i64.wrap (((n % 2 ^ IntKind.i64.bits).toNat &&& (2 ^ k) % 2 ^ IntKind.i64.bits : Nat) : Int) = if bitN n k then ((2 ^ k : Nat) : Int) else 0 := by
  unfold bitN
  generalize (n % 2 ^ IntKind.i64.bits).toNat = m
  have hp : 2 ^ k < 2 ^ 63 := Nat.pow_lt_pow_right (by omega) hk
  have h : m &&& (2 ^ k) % 2 ^ IntKind.i64.bits = if m.testBit k then 2 ^ k else 0 := by
    rw [bits64, Nat.mod_eq_of_lt (by omega)]
    apply Nat.eq_of_testBit_eq
    intro i
    rw [Nat.testBit_and, Nat.testBit_two_pow]
    by_cases hi : k = i
    · subst hi
      cases hb : m.testBit k <;> simp
    · cases hb : m.testBit k <;> simp [hi, Nat.testBit_two_pow]
  rw [h]
  split
  · exact wrap_small hp
  · rfl
theorem mask_run : ((List.range 64).all fun i => (2 ^ IntKind.i64.bits - 1 - 134927 % 2 ^ IntKind.i64.bits).testBit i == decide (3 < i ∧ (i < 8 ∨ 11 < i) ∧ i ≠ 17)) = true := by kernel_rfl
theorem and_oth (n : Int) : decide (IntKind.i64.wrap (((n % 2 ^ IntKind.i64.bits).toNat &&& 2 ^ IntKind.i64.bits - 1 - 134927 % 2 ^ IntKind.i64.bits : Nat) : Int) = 0) = !(othN n) := by
  have hm := modN_lt n
  have hr := fun i hi => beq_iff_eq.1 (List.all_eq_true.1 mask_run i (List.mem_range.2 hi))
  unfold othN bitN
  generalize (n % 2 ^ IntKind.i64.bits).toNat = m at *
  generalize 2 ^ IntKind.i64.bits - 1 - 134927 % 2 ^ IntKind.i64.bits = c at *
  have hc : m &&& c < 2 ^ 64 := Nat.lt_of_le_of_lt Nat.and_le_left hm
  rw [Bool.eq_iff_iff, decide_eq_true_eq, wrap_zero hc, Bool.not_eq_true', ← Bool.not_eq_true, List.any_eq_true]
  constructor
  · rintro h0 ⟨i, hi, hb⟩
    rw [Bool.and_eq_true] at hb
    have h1 : (m &&& c).testBit i = true := by rw [Nat.testBit_and, hb.1, hr i (List.mem_range.1 hi), hb.2]; rfl
    rw [h0] at h1
    simp at h1
  · intro h
    apply Nat.eq_of_testBit_eq
    intro i
    rw [Nat.testBit_and, Nat.zero_testBit]
    by_cases hi : i < 64
    · rw [hr i hi]
      cases hb : m.testBit i && decide (3 < i ∧ (i < 8 ∨ 11 < i) ∧ i ≠ 17) with
      | false => rfl
      | true => exact absurd ⟨i, List.mem_range.2 hi, hb⟩ h
    · have : m.testBit i = false := Nat.testBit_lt_two_pow (Nat.lt_of_lt_of_le hm (Nat.pow_le_pow_right (by omega) (by omega)))
      rw [this]; rfl
theorem has26_ok (n : Int) (i : Nat) (hi : i < 64) (H : Heap) : Cl Tryd.prog pr15 26 [.int .i64 n, .int .i64 i] H fun v H' => v = .bool (bitN n i) ∧ H' = H := by
  have hw : IntKind.u64.wrap (i : Int) = i := by simp [IntKind.wrap, IntKind.signed, IntKind.bits]; omega
  refine Cl.enter Tryd.func26 rfl rfl Tryd.ntmps26 (by simp) ?_
  refine walk hw ?_
  refine ⟨?_, rfl⟩
  congr 1
  unfold bitN
  have e1 : ((n.fdiv (2 ^ min i IntKind.i64.bits) % 2 ^ IntKind.i64.bits).toNat &&& 1 % 2 ^ IntKind.i64.bits) = (n.fdiv (2 ^ min i IntKind.i64.bits) % 2 ^ IntKind.i64.bits).toNat % 2 := Nat.and_two_pow_sub_one_eq_mod _ 1
  rw [e1, wrap_small (by omega), bits64, Nat.min_eq_left (by omega), Int.fdiv_eq_ediv_of_nonneg _ (Int.pow_nonneg (by omega)), Nat.testBit_eq_decide_div_mod_eq]
  congr 1
  obtain ⟨k, hk⟩ : ∃ k, 64 = i + (k + 1) := ⟨63 - i, by omega⟩
  have hp : (2 : Int) ^ 64 = 2 ^ i * (2 * 2 ^ k) := by rw [hk, Int.pow_add, Int.pow_succ, Int.mul_comm (2 ^ k) 2]
  have hA : (0 : Int) < 2 ^ i := Int.pow_pos (by omega)
  have h1 := Int.emod_add_mul_ediv n (2 ^ 64)
  have hm0 : 0 ≤ n % 2 ^ 64 := Int.emod_nonneg _ (by omega)
  generalize hm : n % 2 ^ 64 = m at *
  generalize n / 2 ^ 64 = q at *
  have h2 : n / 2 ^ i = m / 2 ^ i + 2 * (2 ^ k * q) := by
    rw [← h1, hp, Int.mul_assoc, Int.add_mul_ediv_left _ _ (by omega), Int.mul_assoc]
  rw [h2]
  generalize 2 ^ k * q = z
  have h3 : ((m.toNat / 2 ^ i : Nat) : Int) = m / 2 ^ i := by
    rw [Int.natCast_ediv, Int.toNat_of_nonneg hm0]
    simp
  generalize m.toNat / 2 ^ i = y at *
  rw [← h3]
  simp only [eq_iff_iff]
  omega
end Go.Abs

/- Chapter 15: CallsFlags, walked. -/
namespace Go.Abs
open Go.Proofs
set_option maxRecDepth 100000
set_option maxHeartbeats 4000000
set_option linter.unusedVariables false
set_option linter.unusedSimpArgs false

def wayF : Bool → Bool → Int
  | false, false => 0
  | true, false => 1
  | false, true => 2
  | true, true => 3
def powF (c : Int) : Bool → Int
  | true => c
  | false => 0
def flagsR (o b0 b1 b9 b10 b17 : Bool) : Nat × Int := if o || (b0 && b1) || (b10 && !b0 && !b1) || (b9 && b17) then (0, 22) else
  (128 + (if b0 then 0 else 1) + (if b0 || b1 then 2 else 0) + (if b9 then 16 else 0) + (if b10 then 64 else 0), 0)
theorem way_fact (n : Int) : IntKind.i64.wrap (((n % 2 ^ IntKind.i64.bits).toNat &&& 3 % 2 ^ IntKind.i64.bits : Nat) : Int) = wayF (bitN n 0) (bitN n 1) := by
  rw [and_three]
  cases bitN n 0 <;> cases bitN n 1 <;> rfl
theorem f9_fact (n : Int) : IntKind.i64.wrap (((n % 2 ^ IntKind.i64.bits).toNat &&& 512 % 2 ^ IntKind.i64.bits : Nat) : Int) = powF 512 (bitN n 9) := by
  refine (and_pow n 9 (by omega)).trans ?_
  cases bitN n 9 <;> rfl
theorem f10_fact (n : Int) : IntKind.i64.wrap (((n % 2 ^ IntKind.i64.bits).toNat &&& 1024 % 2 ^ IntKind.i64.bits : Nat) : Int) = powF 1024 (bitN n 10) := by
  refine (and_pow n 10 (by omega)).trans ?_
  cases bitN n 10 <;> rfl
theorem f17_fact (n : Int) : IntKind.i64.wrap (((n % 2 ^ IntKind.i64.bits).toNat &&& 131072 % 2 ^ IntKind.i64.bits : Nat) : Int) = powF 131072 (bitN n 17) := by
  refine (and_pow n 17 (by omega)).trans ?_
  cases bitN n 17 <;> rfl
theorem fo_fact (n : Int) : (IntKind.i64.wrap (((n % 2 ^ IntKind.i64.bits).toNat &&& 2 ^ IntKind.i64.bits - 1 - 134927 % 2 ^ IntKind.i64.bits : Nat) : Int) = 0) = (othN n = false) := by
  have h := and_oth n
  cases ho : othN n with
  | true => rw [ho] at h; simpa using h
  | false => rw [ho] at h; simpa using h
theorem flags_ok (n : Int) (H : Heap) : Cl Tryd.prog pr15 17 [.int .i64 n] H fun v H' => v = .tuple [.int .u32 (flagsR (othN n) (bitN n 0) (bitN n 1) (bitN n 9) (bitN n 10) (bitN n 17)).1, .int .i64 (flagsR (othN n) (bitN n 0) (bitN n 1) (bitN n 9) (bitN n 10) (bitN n 17)).2] ∧ H' = H := by
  have f3 := way_fact n
  have f9 := f9_fact n
  have f10 := f10_fact n
  have f17 := f17_fact n
  have fo := fo_fact n
  generalize bitN n 0 = b0 at *
  generalize bitN n 1 = b1 at *
  generalize bitN n 9 = b9 at *
  generalize bitN n 10 = b10 at *
  generalize bitN n 17 = b17 at *
  generalize othN n = o at *
  refine Cl.enter Tryd.func17 rfl rfl Tryd.ntmps17 (by simp) ?_
  cases o with
  | true =>
    have fo := fo.trans (eq_false (by simp : ¬ true = false))
    refine walk fo ?_
    exact ⟨rfl, rfl⟩
  | false =>
    have fo := fo.trans (eq_true (rfl : false = false))
    cases b0 <;> cases b1 <;> cases b9 <;> cases b10 <;> cases b17
    all_goals
      simp only [wayF, powF] at f3 f9 f10 f17
      refine walk (both fo (both f3 (both f9 (both f10 f17)))) ?_
      exact ⟨rfl, rfl⟩
end Go.Abs

/- Chapter 15: the reference's flags, walked. -/
namespace Go.Abs
open Go.Proofs
set_option maxRecDepth 100000
set_option maxHeartbeats 4000000
set_option linter.unusedVariables false
set_option linter.unusedSimpArgs false

def badI (i : Nat) : Bool := decide (3 < i ∧ (i < 8 ∨ 11 < i) ∧ i ≠ 17)
theorem oth_true {n : Int} {i : Nat} (hi : i < 64) (h : bitN n i = true) (hb : badI i = true) : othN n = true :=
  List.any_eq_true.2 ⟨i, List.mem_range.2 hi, by rw [h, Bool.true_and]; exact hb⟩
theorem oth_false {n : Int} (h : ∀ i < 64, (bitN n i && badI i) = false) : othN n = false := by
  cases ho : othN n with
  | false => rfl
  | true =>
    obtain ⟨i, hi, hb⟩ := List.any_eq_true.1 ho
    have := h i (List.mem_range.1 hi)
    unfold badI at this
    rw [this] at hb
    cases hb
theorem refFlags_ok (n : Int) (H : Heap) : Cl Tryd.prog pr15 18 [.int .i64 n] H fun v H' => v = .tuple [.int .u32 (flagsR (othN n) (bitN n 0) (bitN n 1) (bitN n 9) (bitN n 10) (bitN n 17)).1, .int .i64 (flagsR (othN n) (bitN n 0) (bitN n 1) (bitN n 9) (bitN n 10) (bitN n 17)).2] ∧ H' = H := by
  refine Cl.enter Tryd.func18 rfl rfl Tryd.ntmps18 (by simp) ?_
  refine walk none0 ?_
  refine Wq.loop (fun m e H' => ∃ i : Nat, i ≤ 64 ∧ m = 64 - i ∧ H' = H ∧ e 0 = .int .i64 n ∧ e 4 = .int .i64 i ∧ ∀ j < i, (bitN n j && badI j) = false) 64 ?_ ?_
  · exact ⟨0, by omega, by omega, rfl, by simp, by simp, fun j hj => by omega⟩
  · rintro m e H' ⟨i, hi, rfl, rfl, e0, e4, hlo⟩
    by_cases hlt : i < 64
    · have hltI : (i : Int) < 64 := by omega
      refine walk (both e0 (both e4 hltI)) ?_
      refine (has26_ok n i hlt H').mono fun v H1 _ ⟨e1, e2⟩ => ?_
      subst e1; subst e2
      have step : (bitN n i && badI i) = false → ∀ j < i + 1, (bitN n j && badI j) = false := fun h j hj => by
        rcases Nat.lt_or_ge j i with h' | h'
        · exact hlo j h'
        · obtain rfl : j = i := by omega
          exact h
      cases hb : bitN n i with
      | false =>
        refine walk (both e0 e4) ?_
        exact Roundq.normal (64 - (i + 1)) (by omega) ⟨i + 1, by omega, rfl, rfl, by simp [e0], by simp, step (by rw [hb]; rfl)⟩
      | true =>
        by_cases h3 : 3 < i
        · have h3I : 3 < (i : Int) := by omega
          by_cases h8 : i < 8
          · have h8I : (i : Int) < 8 := by omega
            have h17 : ¬ (i : Int) = 17 := by omega
            have hbad : badI i = true := decide_eq_true ⟨h3, .inl h8, by omega⟩
            rw [oth_true hlt hb hbad]
            refine walk (both e0 (both e4 (both h3I (both h8I h17)))) ?_
            exact ⟨rfl, rfl⟩
          · have h8I : ¬ (i : Int) < 8 := by omega
            by_cases h11 : 11 < i
            · have h11I : 11 < (i : Int) := by omega
              by_cases h17 : i = 17
              · subst h17
                refine walk (both e0 e4) ?_
                exact Roundq.normal (64 - (17 + 1)) (by omega) ⟨17 + 1, by omega, rfl, rfl, by simp [e0], by simp, step (by rw [hb]; rfl)⟩
              · have h17I : ¬ (i : Int) = 17 := by omega
                have hbad : badI i = true := decide_eq_true ⟨h3, .inr h11, h17⟩
                rw [oth_true hlt hb hbad]
                refine walk (both e0 (both e4 (both h3I (both h8I (both h11I h17I))))) ?_
                exact ⟨rfl, rfl⟩
            · have h11I : ¬ 11 < (i : Int) := by omega
              have hbad : badI i = false := decide_eq_false (by omega)
              refine walk (both e0 (both e4 (both h3I (both h8I h11I)))) ?_
              exact Roundq.normal (64 - (i + 1)) (by omega) ⟨i + 1, by omega, rfl, rfl, by simp [e0], by simp, step (by rw [hb, hbad]; rfl)⟩
        · have h3I : ¬ 3 < (i : Int) := by omega
          have hbad : badI i = false := decide_eq_false (by omega)
          refine walk (both e0 (both e4 h3I)) ?_
          exact Roundq.normal (64 - (i + 1)) (by omega) ⟨i + 1, by omega, rfl, rfl, by simp [e0], by simp, step (by rw [hb, hbad]; rfl)⟩
    · obtain rfl : i = 64 := by omega
      rw [oth_false hlo]
      refine walk (both e0 e4) ?_
      refine (has26_ok n 0 (by omega) H').mono fun v H1 _ ⟨e1, e2⟩ => ?_
      subst e1; subst e2
      refine walk (both e0 e4) ?_
      refine (has26_ok n 1 (by omega) H1).mono fun v H2 _ ⟨e1, e2⟩ => ?_
      subst e1; subst e2
      refine walk (both e0 e4) ?_
      refine (has26_ok n 9 (by omega) H2).mono fun v H3 _ ⟨e1, e2⟩ => ?_
      subst e1; subst e2
      refine walk (both e0 e4) ?_
      refine (has26_ok n 10 (by omega) H3).mono fun v H4 _ ⟨e1, e2⟩ => ?_
      subst e1; subst e2
      have h17 := has26_ok n 17 (by omega) H4
      generalize bitN n 0 = b0 at *
      generalize bitN n 1 = b1 at *
      generalize bitN n 9 = b9 at *
      generalize bitN n 10 = b10 at *
      generalize bitN n 17 = b17 at *
      cases b0 <;> cases b1 <;> cases b9 <;> cases b10 <;> cases b17
      all_goals
        refine walk (both e0 e4) ?_
        first
          | exact ⟨rfl, rfl⟩
          | refine h17.mono fun v H5 _ ⟨e1, e2⟩ => ?_
            subst e1; subst e2
            refine walk (both e0 e4) ?_
            exact ⟨rfl, rfl⟩
theorem callsFlags_main (n : Int) {H : Heap} (hL : Lain S15 H) : Cl Tryd.prog pr15 7 [.int .i64 n] H fun v _ => v = .bool true := by
  refine Cl.enter Tryd.func7 rfl rfl Tryd.ntmps7 (by simp) ?_
  refine walk none0 ?_
  refine (flags_ok n H).mono fun v H1 _ ⟨e1, e2⟩ => ?_
  subst e1; subst e2
  refine walk none0 ?_
  refine (refFlags_ok n H1).mono fun v H2 _ ⟨e1, e2⟩ => ?_
  subst e1; subst e2
  generalize flagsR (othN n) (bitN n 0) (bitN n 1) (bitN n 9) (bitN n 10) (bitN n 17) = r
  obtain ⟨x, y⟩ := r
  refine walk none0 ?_
  refine (lives_ok hL).mono fun v H3 _ ⟨_, e1⟩ => ?_
  subst e1
  refine walk none0 ?_
  rfl
end Go.Abs

/- CallsFlags: the row and its card. -/
namespace Go.Proofs.YtjbccgpaaaoljaaDoor
open Go.ChangeShapes Go.WideShapes Go.ChangeAt Go.RowKit Go.Abs
set_option linter.unusedVariables false
set_option maxRecDepth 100000

theorem callsFlagsMain (H : Heap) (xs : List AV) (hG : Tryd.prog.globals.size ≤ H.next) (hw : Wf H) (hL : Lain S15 H) (h : PicAll Tryd.prog H 2 [3] xs) : CallsA Tryd.prog pr15 7 xs H fun v _ => v = .bool true := by
  obtain ⟨a0, r0, rfl, h0, hend⟩ := h
  obtain rfl : r0 = [] := hend
  refine Cl.callsA primsRl hw ?_
  obtain ⟨n, rfl, _⟩ := picV_i64 Tryd.underlying3 h0
  exact callsFlags_main n hL

theorem callsFlagsLifted (os : Os) (started : os.Started) (H : Type) (enc : TypeId × Value → H) :
    ReturnsInHanded {} Tryd.checked os 7 .any (fun w args => (Rows.callsFlagsSpec.pre enc Tryd.prog Tryd.f7 [] false w args ∧ laidMetH Tryd.prog Rows.callsFlagsRow.laid w) ∧ sizedMet enc Tryd.prog Tryd.f7 (OpenSpec.ofChange Rows.callsFlagsSpec) false w args)
      (Rows.callsFlagsSpec.post enc Tryd.prog Tryd.f7 false true false false) := by
  refine returnsInHanded_of_change_and (C := Tryd.checked) (X := fun w _ => laidMetH Tryd.prog Rows.callsFlagsRow.laid w) (fun _ _ _ hh h => h.of_heap hh) own started (by kernel_rfl) Tryd.func7
    (ChangeSpec.witness_shaped (enc := enc) (C := Tryd.checked) (os := os) (X := fun w _ => laidMetH Tryd.prog Rows.callsFlagsRow.laid w) false (World.laidAll Tryd.prog os Rows.callsFlagsRow.laid) #[.int .i64 0] 8 (World.laidAll_os _ _ _)
      (World.shaped_of_ZipB (by kernel_rfl) (by kernel_rfl)) (by kernel_rfl) (by kernel_rfl) (by kernel_rfl)
      (by rw [MakeChecks.laidMetH_plain _ _ _ (by kernel_rfl)]; exact laidMet_laidAll _ (by kernel_rfl) (by kernel_rfl))) ?_
  intro W base args ds gs before hval hW hcnd _ hL _
  rw [MakeChecks.laidMetH_plain _ _ _ (by kernel_rfl)] at hL
  have ep : Tryd.f7.params.toList = [3] := by kernel_rfl
  refine law_post laidOut rfl (fun ds h => ?_) (tb := 4) (by kernel_rfl) Tryd.underlying4 ?_ hW (fun p hA => ?_)
  · rw [ep] at h
    match ds, h with
    | [a0], _ => rfl
  · rw [ep]
    intro t ht
    simp at ht
    subst ht; exact ⟨by kernel_rfl, of_decide_eq_true (by kernel_rfl)⟩
  · refine law_calls_laid primsOk mixed plainN Tryd.func7 rfl (S := S15) (tabs_of (Rows.callsFlagsRow.laid) W hL (by simp [Rows.callsFlagsRow])) tabs_get (n := 2) (base := base) (ts := Tryd.f7.params.toList) ?_ ?_ ?_ hA
    · rw [ep]
      intro t ht
      simp at ht
      subst ht; kernel_rfl
    · rw [ep]
      exact callsFlagsMain
    · intro j t v h1 h2
      exact hval j t v (by simpa using h1) (by simpa using h2)

theorem callsFlagsRow : Rows.CallsFlagsSaid :=
  OpenClaim.holds_of_wide 7 Tryd.f7 rfl rfl rfl rfl rfl rfl rfl ⟨rfl, rfl, rfl, rfl, rfl⟩ rfl rfl rfl rfl rfl (by kernel_rfl) Tryd.func7 (by kernel_rfl)
    (of_decide_eq_true (by kernel_rfl)) (by unfold Func.isWrapper; first | (rw [if_pos (by decide +kernel)]; kernel_rfl) | (rw [if_neg (by decide +kernel)]; exact ⟨rfl, rfl⟩))
    (fun os started H enc _ => callsFlagsLifted os started H enc)
theorem callsFlags : Rows.CallsFlagsCardSaid :=
  Claim7.holds_tied_plain_at .later [] [.data, .listed, .data, .pinned] true (true, "94a9308171d9e45166b288a22aadf5d32d23e23ccde652f57c1d37d50dbba4c2") false callsFlagsRow (fun _ h => by cases h) (by kernel_rfl) (fun _ h => by cases h) callsFlags_row_tie rfl ⟨rfl, rfl⟩ (by kernel_rfl) rfl
    (fun f fn hf hfn => by
      obtain rfl : f = 7 := Option.some.inj ((show Tryd.prog.funcNamed Rows.callsFlagsRow.func = some 7 by kernel_rfl).symm.trans hf) |>.symm
      obtain rfl : fn = Tryd.f7 := (Option.some.inj (Tryd.func7.symm.trans hfn)).symm
      exact ⟨by kernel_rfl, fun j t ht => by
        rw [Tryd.params7] at ht
        have hm : t ∈ [3] := by simpa using Array.mem_of_getElem? ht
        have hall : ([3].all fun u => !Tryd.prog.wantsStandIn u) = true := by kernel_rfl
        exact (show Tryd.prog.wantsStandIn t = false by simpa using List.all_eq_true.1 hall t hm)⟩)
    (by kernel_rfl)
-- #print axioms callsFlags
end Go.Proofs.YtjbccgpaaaoljaaDoor
