/- Texts on this program, joined. -/
import Derived.Test.YtneaadcnpebfeaaDoorOwn15
import Derived.Test.YtneaadcnpebfeaaDoorKit16

/- Chapter 01: which set a text is, walked. -/
namespace Go.Abs
open Go.Proofs
set_option maxRecDepth 100000
set_option linter.unusedVariables false
set_option linter.unusedSimpArgs false

/-! ## the bits of names -/
def ixOf (s : Txt) : List Txt → Nat → Option Nat
  | [], _ => none
  | x :: r, i => if x = s then some i else ixOf s r (i + 1)
theorem ixOf_none {s : Txt} : ∀ {l : List Txt} {k : Nat}, ixOf s l k = none → s ∉ l
  | [], k, _ => by simp
  | x :: r, k, h => by
    unfold ixOf at h
    split at h
    · cases h
    · rename_i hx
      intro hm
      rcases List.mem_cons.1 hm with rfl | hm
      · exact hx rfl
      · exact ixOf_none h hm
theorem ixOf_some {s : Txt} : ∀ {l : List Txt} {k i : Nat}, ixOf s l k = some i → ∃ j, i = k + j ∧ l[j]? = some s ∧ ∀ (n : Nat) (y : Txt), n < j → l[n]? = some y → y ≠ s
  | [], k, i, h => by cases h
  | x :: r, k, i, h => by
    unfold ixOf at h
    split at h
    · rename_i hx
      cases h
      exact ⟨0, rfl, by simp [hx], fun n y hn => by omega⟩
    · rename_i hx
      obtain ⟨j, rfl, h1, h2⟩ := ixOf_some h
      refine ⟨j + 1, by omega, by simpa using h1, fun n y hn hy => ?_⟩
      cases n with
      | zero => simp at hy; subst hy; exact hx
      | succ n => exact h2 n y (by omega) (by simpa using hy)
def bitOf (s : Txt) : Option (BitVec 32) := (ixOf s NM 0).map fun i => BitVec.ofNat 32 (2 ^ i)
theorem bitOf_nameP (s : Txt) : nameP s ((bitOf s).getD 0).toNat (bitOf s).isSome := by
  unfold bitOf
  cases h : ixOf s NM 0 with
  | none => exact .inl ⟨rfl, rfl, ixOf_none h⟩
  | some i =>
    obtain ⟨j, rfl, h1, h2⟩ := ixOf_some h
    have hj : j < 32 := by have := (List.getElem?_eq_some_iff.1 h1).1; rw [nm_len] at this; exact this
    refine .inr ⟨j, hj, ?_, rfl, h1, h2⟩
    have : 2 ^ j < 2 ^ 32 := Nat.pow_lt_pow_right (by omega) hj
    simp
    omega
theorem bitOf_of {s : Txt} {n : Nat} {ok : Bool} (h : nameP s n ok) : n = ((bitOf s).getD 0).toNat ∧ ok = (bitOf s).isSome := nameP_one h (bitOf_nameP s)
theorem bitB_ok {H : Heap} (hL : Lain S01 H) (s : Txt) : Cl Tryd.prog pr01 35 [.str s] H fun r H' => Keep H H' ∧ r = .tuple [.int .u32 ((bitOf s).getD 0).toNat, .bool (bitOf s).isSome] :=
  (bit_ok hL s).mono fun v H1 _ ⟨kA, n, ok, e, h⟩ => by
    obtain ⟨rfl, rfl⟩ := bitOf_of h
    exact ⟨kA, e⟩
theorem refBitB_ok (H : Heap) (s : Txt) : Cl Tryd.prog pr01 26 [.str s] H fun r H' => Keep H H' ∧ r = .tuple [.int .u32 ((bitOf s).getD 0).toNat, .bool (bitOf s).isSome] :=
  (refBit_ok H s).mono fun v H1 _ ⟨kA, n, ok, e, h⟩ => by
    obtain ⟨rfl, rfl⟩ := bitOf_of h
    exact ⟨kA, e⟩
def orAll : BitVec 32 → List Txt → Option (BitVec 32)
  | a, [] => some a
  | a, x :: r => match bitOf x with
    | none => none
    | some b => orAll (a ||| b) r
def parseT (s : Txt) : BitVec 32 × Int := if s = [110, 111, 110, 101] then (0#32, 0) else if s = [97, 108, 108] then (4294967295#32, 0) else match orAll 0#32 (splitB 44 s) with
  | none => (0#32, 22)
  | some a => if showT a = s then (a, 0) else (0#32, 22)
/-! ## the iterator -/
/-- The iterator over a text's pieces, and what it holds. -/
def SeqV (s : Txt) (H H' : Heap) (v : AV) : Prop := Keep H H' ∧ ∃ b1 b2 b3 t1 t2 t3 m1 m2 m3, v = .func (.func 47) [] [.ptr (some (b1, 0)), .ptr (some (b2, 0)), .ptr (some (b3, 0))] ∧ H.next ≤ b1 ∧ H.next ≤ b2 ∧ H.next ≤ b3 ∧ b1 < H'.next ∧ b2 < H'.next ∧ b3 < H'.next ∧ b1 ≠ b2 ∧ b1 ≠ b3 ∧ b2 ≠ b3 ∧
  H'.get b1 = some (.cells [.str [44]] t1 true m1) ∧ H'.get b2 = some (.cells [.str s] t2 true m2) ∧ H'.get b3 = some (.cells [.int .i64 0] t3 true m3)
theorem seq41_ok (s : Txt) (H : Heap) : Cl Tryd.prog pr01 41 [.str s, .str [44], .int .i64 0] H fun r H' => SeqV s H H' r := by
  refine Cl.enter Tryd.func41 rfl rfl Tryd.ntmps41 (by simp) ?_
  refine walk none0 ?_
  refine ⟨((Upd.rfl.push _).push _).push _, _, _, _, 9, 9, 3, false, false, false, rfl, by omega, by omega, by omega, by simp, by simp; omega, by simp, by omega, by omega, by omega, ?_, ?_, ?_⟩ <;> simp (disch := omega) [ineg]
theorem seq_ok (s : Txt) (H : Heap) : Cl Tryd.prog pr01 34 [.str s, .str [44]] H fun r H' => SeqV s H H' r := by
  refine Cl.enter Tryd.func34 rfl rfl Tryd.ntmps34 (by simp) ?_
  refine walk none0 ?_
  refine (seq41_ok s H).mono fun v H1 _ h => ?_
  refine walk none0 ?_
  exact h
theorem split_prim : pr01 (Tryd.prog.funcs.size + 47) = some splitP := by
  have : Tryd.prog.funcs.size + 47 = 142 := by kernel_rfl
  rw [this]
  rfl
theorem split_ok {s : Txt} {H H' : Heap} {lb : List AV} (h : SeqV s H H' (.func (.func 47) [] lb)) (hs : s.length ≤ 1000000) : Cl Tryd.prog pr01 (Tryd.prog.funcs.size + 47) (AV.ask :: lb) H' fun v H2 => v = .tuple (strs (splitB 44 s)) ∧ Keep H H2 := by
  obtain ⟨k, b1, b2, b3, t1, t2, t3, m1, m2, m3, e, a1, a2, a3, l1, l2, l3, n12, n13, n23, h1, h2, h3⟩ := h
  injection e with _ _ e
  subst e
  refine Cl.prim (g := splitP) split_prim (v := .tuple (strs (splitB 44 s))) (H' := ((H'.set b1 .dead).set b2 .dead).set b3 .dead) ?_ ⟨rfl, ?_⟩
  · unfold AV.ask splitP
    simp only [h1, h2, h3]
    rw [if_pos ⟨n12, n13, n23, hs⟩]
    rfl
  · exact ((k.set _ l1 (by omega)).set _ (by simp; omega) (by omega)).set _ (by simp; omega) (by omega)
/-- The memory of a parse: what is returned, and the set so far. -/
structure PS (H H' : Heap) (a : BitVec 32) : Prop where
  keep : Keep H H'
  g2 : H'.get H.next = some (.cells [.int .u32 0] 23 true false)
  g3 : H'.get (H.next + 1) = some (.cells [.int .i64 0] 27 true false)
  g4 : H'.get (H.next + 1 + 1) = some (.cells [.int .u32 a.toNat] 23 true false)
  lt : H.next + 1 + 1 < H'.next
theorem PS.kept {H H' H2 : Heap} {a : BitVec 32} (h : PS H H' a) (k : Keep H' H2) : PS H H2 a :=
  have hl := h.lt
  ⟨h.keep.then k, (k.get (by omega)).trans h.g2, (k.get (by omega)).trans h.g3, (k.get (by omega)).trans h.g4, Nat.lt_of_lt_of_le hl k.next⟩
theorem PS.set {H H' : Heap} {a b : BitVec 32} (h : PS H H' a) : PS H (H'.set (H.next + 1 + 1) (.cells [.int .u32 b.toNat] 23 true false)) b := by
  have hl := h.lt
  refine ⟨h.keep.set _ (by omega) (by omega), ?_, ?_, by simp, by simp; omega⟩
  · rw [Heap.get_set_ne _ _ (by omega)]; exact h.g2
  · rw [Heap.get_set_ne _ _ (by omega)]; exact h.g3
theorem PS.out {H H' : Heap} {a : BitVec 32} (h : PS H H' a) (x y : AObj) : Keep H ((H'.set H.next x).set (H.next + 1) y) :=
  have hl := h.lt
  (h.keep.set _ (by omega) (by omega)).set _ (by simp; omega) (by omega)
def parseR (s : Txt) (o : Option (BitVec 32)) : BitVec 32 × Int := match o with
  | none => (0#32, 22)
  | some a => if showT a = s then (a, 0) else (0#32, 22)
theorem Parse_ok (s : Txt) (hs : s.length ≤ 1000000) {H : Heap} (hL : Lain S01 H) : Cl Tryd.prog pr01 15 [.str s] H fun r H' => Keep H H' ∧ r = .tuple [.int .u32 (parseT s).1.toNat, .int .i64 (parseT s).2] := by
  refine Cl.enter Tryd.func15 rfl rfl Tryd.ntmps15 (by simp) ?_
  refine walk none0 ?_
  by_cases h0 : s = [110, 111, 110, 101]
  · have e : parseT s = (0#32, 0) := by rw [parseT, if_pos h0]
    rw [e]
    subst h0
    refine walk none0 ?_
    exact ⟨(((Upd.rfl.push _).push _).set _ (by simp; omega) (by omega)).set _ (by simp) (by omega), rfl⟩
  · by_cases h1 : s = [97, 108, 108]
    · have e : parseT s = (4294967295#32, 0) := by rw [parseT, if_neg h0, if_pos h1]
      rw [e]
      subst h1
      refine walk none0 ?_
      exact ⟨(((Upd.rfl.push _).push _).set _ (by simp; omega) (by omega)).set _ (by simp) (by omega), rfl⟩
    · have e : parseT s = parseR s (orAll 0#32 (splitB 44 s)) := by rw [parseT, if_neg h0, if_neg h1]; rfl
      rw [e]
      refine walk (both h0 h1) ?_
      have hP : PS H ((((H.push (AObj.cells [AV.int IntKind.u32 0] 23 true false)).push (AObj.cells [AV.int IntKind.i64 0] 27 true false)).push (AObj.cells [AV.int IntKind.u32 0] 23 true false)).set (H.next + 1 + 1) (AObj.cells [AV.int IntKind.u32 0] 23 true false)) 0#32 := by
        refine ⟨(((Upd.rfl.push _).push _).push _).set _ (by simp) (by omega), ?_, ?_, ?_, ?_⟩ <;> simp
      generalize (((H.push (AObj.cells [AV.int IntKind.u32 0] 23 true false)).push (AObj.cells [AV.int IntKind.i64 0] 27 true false)).push (AObj.cells [AV.int IntKind.u32 0] 23 true false)).set (H.next + 1 + 1) (AObj.cells [AV.int IntKind.u32 0] 23 true false) = H4 at *
      refine (seq_ok s H4).mono fun v H5 _ hv => ?_
      obtain ⟨lb, rfl⟩ : ∃ lb, v = .func (.func 47) [] lb := by obtain ⟨_, b1, b2, b3, t1, t2, t3, m1, m2, m3, e, _⟩ := hv; exact ⟨_, e⟩
      refine walk none0 ?_
      refine Wq.rangeFunc (gf := 47) (lb := lb) rfl (by simp) (fun zs H' => ∃ l a, zs = strs l ∧ PS H H' a ∧ orAll a l = orAll 0#32 (splitB 44 s)) ?_ ?_ ?_
      · refine (split_ok hv hs).mono fun v H6 _ ⟨e, k⟩ => ?_
        exact ⟨_, e, _, _, rfl, hP.kept k, rfl⟩
      · rintro z zs H' ⟨l, a, hz, hP', ho⟩
        obtain ⟨x, r, rfl, rfl, rfl⟩ : ∃ x r, l = x :: r ∧ z = .str x ∧ zs = strs r := by
          cases l with
          | nil => cases hz
          | cons x r => injection hz with h1 h2; exact ⟨x, r, rfl, h1, h2⟩
        have q2 := hP'.g2
        have q3 := hP'.g3
        have q4 := hP'.g4
        refine walk none0 ?_
        refine (bitB_ok (lain_kept hL hP'.keep) x).mono fun v H6 _ ⟨kB, e1⟩ => ?_
        subst e1
        have hP6 := hP'.kept kB
        have q2 := hP6.g2
        have q3 := hP6.g3
        have q4 := hP6.g4
        cases hb : bitOf x with
        | none =>
          have ho : orAll 0#32 (splitB 44 s) = none := by rw [← ho, orAll, hb]
          refine walk (both q2 (both q3 q4)) ?_
          rw [ho]
          exact ⟨hP6.out _ _, rfl⟩
        | some b =>
          have ho : orAll (a ||| b) r = orAll 0#32 (splitB 44 s) := by rw [← ho, orAll, hb]
          have hor := u32_or a b
          refine walk (both q2 (both q3 (both q4 hor))) ?_
          have hse := hP6.set (b := a ||| b)
          rw [BitVec.toNat_or] at hse
          exact ⟨r, a ||| b, rfl, hse, ho⟩
      · rintro H' ⟨l, a, hz, hP', ho⟩
        have hl : l = [] := by cases l with
          | nil => rfl
          | cons x r => cases hz
        subst hl
        have ho : orAll 0#32 (splitB 44 s) = some a := ho.symm
        rw [ho]
        have q2 := hP'.g2
        have q3 := hP'.g3
        have q4 := hP'.g4
        refine walk (both q2 (both q3 q4)) ?_
        refine (show_ok a (lain_kept hL hP'.keep)).mono fun v H6 _ ⟨kB, e1⟩ => ?_
        subst e1
        have hP6 := hP'.kept kB
        have q2 := hP6.g2
        have q3 := hP6.g3
        have q4 := hP6.g4
        by_cases hsh : showT a = s
        · have e2 : parseR s (some a) = (a, 0) := if_pos hsh
          rw [e2]
          refine walk (both q2 (both q3 (both q4 hsh))) ?_
          exact ⟨hP6.out _ _, rfl⟩
        · have e2 : parseR s (some a) = (0#32, 22) := if_neg hsh
          rw [e2]
          refine walk (both q2 (both q3 (both q4 hsh))) ?_
          exact ⟨hP6.out _ _, rfl⟩
end Go.Abs

/- Chapter 01: the reference's reading of a text, and the laws RightsShows and RightsParses, walked. -/
namespace Go.Abs
open Go.Proofs
set_option maxRecDepth 100000
set_option linter.unusedVariables false
set_option linter.unusedSimpArgs false

theorem splitB_whole {c : UInt8} : ∀ {p : Txt}, c ∉ p → splitB c p = [p]
  | [], _ => rfl
  | b :: r, h => by
    have hb : b ≠ c := fun e => h (by simp [e])
    have hr := splitB_whole (p := r) (fun e => h (List.mem_cons_of_mem _ e))
    unfold splitB
    rw [if_neg hb, hr]
theorem splitB_cut {c : UInt8} (q : Txt) : ∀ {p : Txt}, c ∉ p → splitB c (p ++ c :: q) = p :: splitB c q
  | [], _ => by rw [List.nil_append]; conv => lhs; unfold splitB; rw [if_pos rfl]
  | b :: r, h => by
    have hb : b ≠ c := fun e => h (by simp [e])
    have hr := splitB_cut q (p := r) (fun e => h (List.mem_cons_of_mem _ e))
    rw [List.cons_append]
    conv => lhs; unfold splitB; rw [if_neg hb, hr]
theorem orAll_none {a : BitVec 32} {x : Txt} {r : List Txt} (h : bitOf x = none) : orAll a (x :: r) = none := by simp [orAll, h]
theorem orAll_some {a b : BitVec 32} {x : Txt} {r : List Txt} (h : bitOf x = some b) : orAll a (x :: r) = orAll (a ||| b) r := by simp [orAll, h]
theorem refParse_ok (s : Txt) (hs : s.length ≤ 1000) (H : Heap) : Cl Tryd.prog pr01 17 [.str s] H fun r H' => Keep H H' ∧ r = .tuple [.int .u32 (parseT s).1.toNat, .int .i64 (parseT s).2] := by
  refine Cl.enter Tryd.func17 rfl rfl Tryd.ntmps17 (by simp) ?_
  refine walk none0 ?_
  by_cases h0 : s = [110, 111, 110, 101]
  · have e : parseT s = (0#32, 0) := by rw [parseT, if_pos h0]
    rw [e]
    subst h0
    refine walk none0 ?_
    exact ⟨Upd.rfl, rfl⟩
  · by_cases h1 : s = [97, 108, 108]
    · have e : parseT s = (4294967295#32, 0) := by rw [parseT, if_neg h0, if_pos h1]
      rw [e]
      subst h1
      refine walk none0 ?_
      exact ⟨Upd.rfl, rfl⟩
    · have e : parseT s = parseR s (orAll 0#32 (splitB 44 s)) := by rw [parseT, if_neg h0, if_neg h1]; rfl
      rw [e]
      refine walk (both h0 h1) ?_
      refine Wq.loop (fun m e H' => ∃ (i fr : Nat) (a : BitVec 32), m = s.length + 1 - i ∧ Keep H H' ∧ e 0 = .str s ∧ e 4 = .int .u32 a.toNat ∧ e 5 = .int .i64 fr ∧ e 6 = .int .i64 i ∧
        ((fr ≤ i ∧ i ≤ s.length ∧ 44 ∉ (s.drop fr).take (i - fr) ∧ orAll a (splitB 44 (s.drop fr)) = orAll 0#32 (splitB 44 s)) ∨ (i = s.length + 1 ∧ some a = orAll 0#32 (splitB 44 s)))) (s.length + 1) ?_ ?_
      · exact ⟨0, 0, 0#32, by omega, Upd.rfl, by simp, by simp, by simp, by simp, .inl ⟨by omega, by omega, by simp, by simp⟩⟩
      · rintro m e H' ⟨i, fr, a, rfl, kk, g0, g4, g5, g6, ⟨hf, hi, hno, ho⟩ | ⟨rfl, ho⟩⟩
        · by_cases hlt : i < s.length
          · obtain ⟨c, hc⟩ := get_lt' hlt
            have hne : i ≠ s.length := by omega
            have hne' : ((i : Int) = s.length) = False := by simp; omega
            by_cases h44 : c = 44
            · subst h44
              have hpe : splitB 44 (s.drop fr) = ((s.take i).drop fr) :: splitB 44 (s.drop (i + 1)) := by
                rw [← splitB_cut (s.drop (i + 1)) (p := (s.take i).drop fr) (by rw [List.drop_take]; exact hno)]
                congr 1
                have e1 : s.drop i = 44 :: s.drop (i + 1) := by
                  rw [List.drop_eq_getElem_cons hlt]
                  congr 1
                  simpa [hlt] using hc
                rw [← e1, List.drop_take]
                have e2 : s.drop i = (s.drop fr).drop (i - fr) := by rw [List.drop_drop]; congr 1; omega
                rw [e2, List.take_append_drop]
              refine walk (both g0 (both g4 (both g5 (both g6 (both hi (both hlt (both hne (both hne' (both hc hf))))))))) ?_
              refine (refBitB_ok H' ((s.take i).drop fr)).mono fun v H6 _ ⟨kB, e1⟩ => ?_
              subst e1
              cases hb : bitOf ((s.take i).drop fr) with
              | none =>
                have ho : orAll 0#32 (splitB 44 s) = none := by rw [← ho, hpe, orAll_none hb]
                rw [ho]
                refine walk none0 ?_
                exact ⟨kk.then kB, rfl⟩
              | some b =>
                have ho : orAll (a ||| b) (splitB 44 (s.drop (i + 1))) = orAll 0#32 (splitB 44 s) := by rw [← ho, hpe, orAll_some hb]
                have hor := each_or a b
                refine walk (both g0 g4) ?_
                refine (each_ok a b 1 (by simp) H6).mono fun v H7 _ ⟨e1, kC⟩ => ?_
                subst e1
                rw [hor]
                refine walk (both g0 g6) ?_
                refine Roundq.normal (s.length + 1 - (i + 1)) (by omega) ⟨i + 1, i + 1, a ||| b, by omega, (kk.then kB).then kC, by simp [g0], by simp, by simp, by simp, .inl ⟨by omega, by omega, by simp, ho⟩⟩
            · have hc44 : ((c.toNat : Int) = 44) = False := by
                refine eq_false fun e => h44 ?_
                have : c.toNat = 44 := by omega
                exact UInt8.toNat.inj this
              refine walk (both g0 (both g4 (both g5 (both g6 (both hi (both hlt (both hne (both hne' (both hc hc44))))))))) ?_
              refine Roundq.normal (s.length + 1 - (i + 1)) (by omega) ⟨i + 1, fr, a, by omega, kk, by simp [g0], by simp [g4], by simp [g5], by simp, .inl ⟨by omega, by omega, ?_, ho⟩⟩
              have e1 : (s.drop fr).take (i + 1 - fr) = (s.drop fr).take (i - fr) ++ [c] := by
                have : i + 1 - fr = i - fr + 1 := by omega
                rw [this, List.take_add_one]
                congr 1
                rw [List.getElem?_drop, show fr + (i - fr) = i by omega, hc]; rfl
              rw [e1, List.mem_append]
              rintro (h | h)
              · exact hno h
              · simp at h; exact h44 h.symm
          · obtain rfl : i = s.length := by omega
            have hpe : splitB 44 (s.drop fr) = [s.drop fr] := splitB_whole (by rw [List.take_of_length_le (by simp)] at hno; exact hno)
            refine walk (both g0 (both g4 (both g5 (both g6 hf)))) ?_
            refine (refBitB_ok H' (s.drop fr)).mono fun v H6 _ ⟨kB, e1⟩ => ?_
            subst e1
            cases hb : bitOf (s.drop fr) with
            | none =>
              have ho : orAll 0#32 (splitB 44 s) = none := by rw [← ho, hpe, orAll_none hb]
              rw [ho]
              refine walk none0 ?_
              exact ⟨kk.then kB, rfl⟩
            | some b =>
              have ho : orAll (a ||| b) ([] : List Txt) = orAll 0#32 (splitB 44 s) := by rw [← ho, hpe, orAll_some hb]
              have hor := each_or a b
              refine walk (both g0 g4) ?_
              refine (each_ok a b 1 (by simp) H6).mono fun v H7 _ ⟨e1, kC⟩ => ?_
              subst e1
              rw [hor]
              refine walk (both g0 g6) ?_
              refine Roundq.normal 0 (by omega) ⟨s.length + 1, s.length + 1, a ||| b, by omega, (kk.then kB).then kC, by simp [g0], by simp, by simp, by simp, .inr ⟨rfl, ho⟩⟩
        · rw [← ho]
          refine walk (both g0 (both g4 (both g5 g6))) ?_
          refine (refShow_ok a H').mono fun v H6 _ ⟨kB, e1⟩ => ?_
          subst e1
          by_cases hsh : showT a = s
          · have e2 : parseR s (some a) = (a, 0) := if_pos hsh
            rw [e2]
            refine walk (both g0 (both g4 hsh)) ?_
            exact ⟨kk.then kB, rfl⟩
          · have e2 : parseR s (some a) = (0#32, 22) := if_neg hsh
            rw [e2]
            refine walk (both g0 (both g4 hsh)) ?_
            exact ⟨kk.then kB, rfl⟩
end Go.Abs

/- Chapter 01: RightsShows and RightsParses. -/
namespace Go.Abs
open Go.Proofs
set_option maxRecDepth 100000
set_option linter.unusedVariables false
set_option linter.unusedSimpArgs false

theorem splitB_join {c : UInt8} : ∀ (x : Txt) (r : List Txt), c ∉ x → (∀ y ∈ r, c ∉ y) → splitB c (Lib.join (x :: r) [c]) = x :: r
  | x, [], hx, _ => by rw [Lib.join_one, splitB_whole hx]
  | x, y :: r, hx, hr => by
    have e : Lib.join (x :: y :: r) [c] = x ++ c :: Lib.join (y :: r) [c] := by
      rw [Lib.join_cons, Lib.join_cons, joinTail_cons]
      simp
    rw [e, splitB_cut _ hx, splitB_join y r (hr y (by simp)) fun z hz => hr z (by simp [hz])]
theorem nm_no44 : ∀ x ∈ NM, (44 : UInt8) ∉ x := by
  have : NM.all (fun x => !x.contains 44) = true := by kernel_rfl
  intro x hx e
  have := List.all_eq_true.1 this x hx
  simp at this
  exact this e
theorem nm_bit {i : Nat} (hi : i < 32) : bitOf (nm i) = some (BitVec.ofNat 32 (2 ^ i)) := by
  have h : (List.range 32).all (fun i => decide (ixOf (nm i) NM 0 = some i)) = true := by kernel_rfl
  have := List.all_eq_true.1 h i (by simpa using hi)
  have : ixOf (nm i) NM 0 = some i := by simpa using this
  rw [bitOf, this]; rfl
theorem orAll_snoc : ∀ (l : List Txt) (a : BitVec 32) (y : Txt), orAll a (l ++ [y]) = (orAll a l).bind fun z => (bitOf y).map (z ||| ·)
  | [], a, y => by
    simp only [List.nil_append, orAll]
    cases bitOf y <;> rfl
  | x :: l, a, y => by
    rw [List.cons_append]
    cases h : bitOf x with
    | none => rw [orAll_none h, orAll_none h]; rfl
    | some b => rw [orAll_some h, orAll_some h]; exact orAll_snoc l _ y
theorem orAll_names (a : BitVec 32) : ∀ k, k ≤ 32 → ∃ z, orAll 0#32 (namesT a k) = some z ∧ ∀ i, i < 32 → z.getLsbD i = (decide (i < k) && bitA a i)
  | 0, _ => ⟨0#32, rfl, fun i _ => by simp⟩
  | k + 1, hk => by
    obtain ⟨z, h1, h2⟩ := orAll_names a k (by omega)
    rw [namesT_step]
    cases hb : bitA a k with
    | true =>
      refine ⟨z ||| BitVec.ofNat 32 (2 ^ k), ?_, fun i hi => ?_⟩
      · rw [if_pos rfl, orAll_snoc, h1, nm_bit (by omega)]; rfl
      · rw [BitVec.getLsbD_or, h2 i hi, BitVec.getLsbD_ofNat, Nat.testBit_two_pow]
        by_cases e : k = i
        · subst e; simp [hb]; omega
        · have : decide (i < k + 1) = decide (i < k) := by congr 1; rw [eq_iff_iff]; omega
          simp [e, this]
    | false =>
      refine ⟨z, ?_, fun i hi => ?_⟩
      · rw [if_neg (by simp), h1]
      · rw [h2 i hi]
        by_cases e : k = i
        · subst e; simp [hb]
        · have : decide (i < k + 1) = decide (i < k) := by congr 1; rw [eq_iff_iff]; omega
          rw [this]
theorem parse_show (a : BitVec 32) : parseT (showT a) = (a, 0) := by
  by_cases h0 : a = 0#32
  · subst h0; rfl
  · by_cases h1 : a = 4294967295#32
    · subst h1; rfl
    · have e : showT a = Lib.join (namesT a 32) [44] := by rw [showT, if_neg h0, if_neg h1]
      obtain ⟨z, o1, o2⟩ := orAll_names a 32 (Nat.le_refl _)
      have hz : z = a := by
        apply BitVec.eq_of_getLsbD_eq
        intro i hi
        rw [o2 i hi, bitA_eq]
        simp [hi]
      subst hz
      have hn : namesT z 32 ≠ [] := fun h => h0 ((namesT_nil z).1 h)
      have hm : ∀ x ∈ namesT z 32, x ∈ NM := fun x hx => namesT_mem hx
      have hsp : splitB 44 (showT z) = namesT z 32 := by
        rw [e]
        cases hl : namesT z 32 with
        | nil => exact absurd hl hn
        | cons x r =>
          rw [hl] at hm
          exact splitB_join x r (nm_no44 x (hm x (by simp))) fun y hy => nm_no44 y (hm y (by simp [hy]))
      have hno : ∀ s : Txt, splitB 44 s = [s] → s ∉ NM → showT z ≠ s := by
        intro s hs hs' he
        rw [he, hs] at hsp
        exact hs' (hm s (by rw [← hsp]; simp))
      have n1 : showT z ≠ [110, 111, 110, 101] := hno _ rfl (by decide)
      have n2 : showT z ≠ [97, 108, 108] := hno _ rfl (by decide)
      rw [parseT, if_neg n1, if_neg n2, hsp, o1]
      exact if_pos rfl
theorem rightsParses_main (s : Txt) {H : Heap} (hL : Lain S01 H) : Cl Tryd.prog pr01 5 [.str s] H fun v _ => v = .bool true := by
  refine Cl.enter Tryd.func5 rfl rfl Tryd.ntmps5 (by simp) ?_
  by_cases hg : 600 < s.length
  · refine walk hg ?_
    refine (lives_ok hL).mono fun v H1 _ ⟨e1, e2⟩ => ?_
    subst e1; subst e2
    refine walk none0 ?_
    rfl
  · refine walk hg ?_
    refine (Parse_ok s (by omega) hL).mono fun v H1 _ ⟨kA, e1⟩ => ?_
    subst e1
    have hL1 := lain_kept hL kA
    generalize hp : parseT s = p at *
    obtain ⟨pa, pe⟩ := p
    refine walk none0 ?_
    refine (refParse_ok s (by omega) H1).mono fun v H2 _ ⟨kB, e1⟩ => ?_
    subst e1
    have hL2 := lain_kept hL1 kB
    rw [hp]
    refine walk none0 ?_
    refine (lives_ok hL2).mono fun v H1 _ ⟨e1, e2⟩ => ?_
    subst e1; subst e2
    refine walk none0 ?_
    rfl
theorem showT_len (a : BitVec 32) : (showT a).length ≤ 1000 := by
  have := namesT_join a
  unfold showT
  split
  · simp
  · split
    · simp
    · exact this
theorem rightsShows_main (a : BitVec 32) {H : Heap} (hL : Lain S01 H) : Cl Tryd.prog pr01 4 [.int .u32 a.toNat] H fun v _ => v = .bool true := by
  have hps := parse_show a
  have hlen := showT_len a
  refine Cl.enter Tryd.func4 rfl rfl Tryd.ntmps4 (by simp) ?_
  refine walk none0 ?_
  refine (Show_ok a hL).mono fun v H1 _ ⟨kA, e1⟩ => ?_
  subst e1
  have hL1 := lain_kept hL kA
  generalize hs : showT a = s at *
  refine walk none0 ?_
  refine (Parse_ok s (by omega) hL1).mono fun v H2 _ ⟨kB, e1⟩ => ?_
  subst e1
  have hL2 := lain_kept hL1 kB
  rw [hps]
  refine walk none0 ?_
  refine (refShow_ok a H2).mono fun v H3 _ ⟨kC, e1⟩ => ?_
  subst e1
  have hL3 := lain_kept hL2 kC
  rw [hs]
  refine walk none0 ?_
  refine (lives_ok hL3).mono fun v H1 _ ⟨e1, e2⟩ => ?_
  subst e1; subst e2
  refine walk none0 ?_
  rfl
end Go.Abs
