/- Texts on this program, joined. -/
import Derived.Test.YtdndkchlkgldmaaOwn07
import Derived.Test.YtdndkchlkgldmaaKit08
import Derived.Test.YtdndkchlkgldmaaKit03
import Derived.Test.YtdndkchlkgldmaaKit06
import Derived.Test.YtdndkchlkgldmaaKit04
import Derived.Test.YtdndkchlkgldmaaRows
import Derived.WalkKit
import Derived.ProofKit
import Derived.OpenShut
import Derived.ShutString
import Derived.ChangeOld
import Derived.Below

/- Chapter 03: names, walked. -/
namespace Go.Abs
open Go.Proofs
set_option maxRecDepth 100000
set_option linter.unusedVariables false
set_option linter.unusedSimpArgs false

def base03 : Prims := orPrims (extPrims [(60, ibAV)]) (extPrims [(25, containsAV)])
def pr03 : Prims := orPrims (closedPrims [(10, .bool true)]) base03

theorem lives_ok (H : Heap) : Cl Try.prog pr03 10 [] H fun v H' => v = .bool true ∧ H' = H := Cl.prim (v := .bool true) (H' := H) rfl rfl ⟨rfl, rfl⟩
theorem long_ok (s : List UInt8) (H : Heap) : Cl Try.prog pr03 24 [.str s] H fun v H' => v = .bool (decide (32 < (s.length : Int))) ∧ H' = H := by
  refine Cl.enter Try.func24 rfl rfl Try.ntmps24 (by simp) ?_
  refine walk none0 ?_
  exact ⟨rfl, rfl⟩
theorem any_ok (s : List UInt8) (hs : s.length ≤ 3000) (H : Heap) : Cl Try.prog pr03 25 [.str s, .str [47, 0]] H fun v H' => v = .bool (Lib.containsAny s [47, 0]) ∧ H' = H :=
  Cl.prim (v := .bool (Lib.containsAny s [47, 0])) (H' := H) (g := fun args H => match containsAV args with | some v => some (v, H) | none => none) rfl (by simp only [containsAV]; rw [if_pos ⟨trivial, by omega⟩]) ⟨rfl, rfl⟩
def nameE (s : List UInt8) : Int := if s = [] then 2 else if 32 < s.length then 63 else if s = [46] ∨ s = [46, 46] ∨ Lib.containsAny s [47, 0] = true then 22 else 0
theorem name_ok (s : List UInt8) (hs : s.length ≤ 3000) (H : Heap) : Cl Try.prog pr03 8 [.str s] H fun v H' => v = .int .i64 (nameE s) ∧ H' = H := by
  refine Cl.enter Try.func8 rfl rfl Try.ntmps8 (by simp) ?_
  refine walk none0 ?_
  by_cases h0 : s = []
  · subst h0
    refine walk none0 ?_
    exact ⟨rfl, rfl⟩
  · refine walk h0 ?_
    refine (long_ok s H).mono fun v H1 _ ⟨e1, e2⟩ => ?_
    subst e1; subst e2
    by_cases h1 : 32 < s.length
    · refine walk h1 ?_
      exact ⟨by simp [nameE, h0, h1], rfl⟩
    · refine walk h1 ?_
      by_cases h2 : s = [46]
      · subst h2
        refine walk none0 ?_
        exact ⟨rfl, rfl⟩
      · refine walk h2 ?_
        by_cases h3 : s = [46, 46]
        · subst h3
          refine walk none0 ?_
          exact ⟨rfl, rfl⟩
        · refine walk h3 ?_
          refine (any_ok s hs H1).mono fun v H2 _ ⟨e1, e2⟩ => ?_
          subst e1; subst e2
          by_cases h4 : Lib.containsAny s [47, 0] = true
          · refine walk h4 ?_
            exact ⟨by simp [nameE, h0, h1, h4], rfl⟩
          · refine walk h4 ?_
            exact ⟨by simp [nameE, h0, h1, h2, h3, h4], rfl⟩
end Go.Abs

/- Chapter 03: PathNames, walked. -/
namespace Go.Abs
open Go.Proofs
set_option maxRecDepth 100000
set_option linter.unusedVariables false
set_option linter.unusedSimpArgs false

theorem any_spec (s : List UInt8) : (Lib.containsAny s [47, 0] = true ↔ ∃ (k : Nat) (x : UInt8), s[k]? = some x ∧ (x = 47 ∨ x = 0)) := by
  have h0 : ∀ s : List UInt8, (0 ≤ Lib.indexAny s [47, 0] ↔ ∃ x ∈ s, (x = 47 ∨ x = 0)) := by
    intro s
    induction s with
    | nil => simp [Lib.indexAny]
    | cons a l ih =>
      simp only [Lib.indexAny, List.contains_cons, List.contains_nil, Bool.or_false, Bool.or_eq_true, beq_iff_eq]
      by_cases h : a = 47 ∨ a = 0
      · rw [if_pos h]
        simp only [Int.le_refl, true_iff]
        exact ⟨a, by simp, h⟩
      · rw [if_neg h]
        have hge := Lib.indexAny_ge [47, 0] l
        have : (∃ x ∈ a :: l, x = 47 ∨ x = 0) ↔ ∃ x ∈ l, x = 47 ∨ x = 0 := by
          constructor
          · rintro ⟨x, hx, hh⟩
            rcases List.mem_cons.1 hx with rfl | hx
            · exact absurd hh h
            · exact ⟨x, hx, hh⟩
          · rintro ⟨x, hx, hh⟩; exact ⟨x, by simp [hx], hh⟩
        rw [this, ← ih]
        split
        · rename_i he; rw [he]
        · rename_i he; omega
  simp only [Lib.containsAny, decide_eq_true_eq]
  rw [h0]
  constructor
  · rintro ⟨x, hx, hh⟩
    obtain ⟨k, hk⟩ := List.mem_iff_getElem?.1 hx
    exact ⟨k, x, hk, hh⟩
  · rintro ⟨k, x, hk, hh⟩
    exact ⟨x, List.mem_of_getElem? hk, hh⟩
theorem u8_ne {x : UInt8} {n : Nat} (hn : n < 256) (h : x ≠ UInt8.ofNat n) : (x.toNat : Int) ≠ n := by
  intro e
  apply h
  apply UInt8.toNat_inj.1
  rw [UInt8.toNat_ofNat_of_lt' (by simpa using hn)]; omega
theorem get_lt' {α : Type} {l : List α} {i : Nat} (h : i < l.length) : ∃ x, l[i]? = some x := ⟨l[i], by simp [h]⟩
theorem refName_ok (s : List UInt8) (hs : s.length ≤ 3000) (H : Heap) : Cl Try.prog pr03 9 [.str s] H fun v H' => v = .int .i64 (nameE s) ∧ H' = H := by
  refine Cl.enter Try.func9 rfl rfl Try.ntmps9 (by simp) ?_
  refine walk none0 ?_
  by_cases h0 : s = []
  · subst h0
    refine walk none0 ?_
    exact ⟨rfl, rfl⟩
  · refine walk h0 ?_
    by_cases h1 : 32 < s.length
    · refine walk h1 ?_
      exact ⟨by simp [nameE, h0, h1], rfl⟩
    · refine walk h1 ?_
      refine Wq.loop (fun m e H' => ∃ i : Nat, i ≤ s.length ∧ m = s.length - i ∧ H' = H ∧ e 0 = .str s ∧ e 3 = .int .i64 i ∧ ∀ (k : Nat) (x : UInt8), s[k]? = some x → k < i → x ≠ 47 ∧ x ≠ 0) s.length ?_ ?_
      · exact ⟨0, by omega, by omega, rfl, by simp, by simp, fun k x _ h => by omega⟩
      · rintro m e H' ⟨i, hi, rfl, rfl, g0, g3, hlo⟩
        by_cases hlt : i < s.length
        · obtain ⟨x, hx⟩ := get_lt' hlt
          by_cases h2 : x = 47
          · subst h2
            refine walk (both g0 (both g3 (both hlt hx))) ?_
            refine ⟨?_, rfl⟩
            have : Lib.containsAny s [47, 0] = true := (any_spec s).2 ⟨i, _, hx, .inl rfl⟩
            simp [nameE, h0, h1, this]
          · by_cases h3 : x = 0
            · subst h3
              refine walk (both g0 (both g3 (both hlt hx))) ?_
              refine ⟨?_, rfl⟩
              have : Lib.containsAny s [47, 0] = true := (any_spec s).2 ⟨i, _, hx, .inr rfl⟩
              simp [nameE, h0, h1, this]
            · have e2 := u8_ne (n := 47) (by omega) h2
              have e3 := u8_ne (n := 0) (by omega) h3
              refine walk (both g0 (both g3 (both hlt (both hx (both e2 e3))))) ?_
              refine Roundq.normal (s.length - (i + 1)) (by omega) ⟨i + 1, by omega, rfl, rfl, by simp [g0], by simp, fun k y hy hky => ?_⟩
              rcases Nat.lt_or_ge k i with h' | h'
              · exact hlo k y hy h'
              · obtain rfl : k = i := by omega
                rw [hx] at hy; cases hy; exact ⟨h2, h3⟩
        · have hno : Lib.containsAny s [47, 0] = false := by
            rw [Bool.eq_false_iff]
            intro h
            obtain ⟨k, x, hk, hx⟩ := (any_spec s).1 h
            have := hlo k x hk (by have := (List.getElem?_eq_some_iff.1 hk).1; omega)
            rcases hx with rfl | rfl
            · exact this.1 rfl
            · exact this.2 rfl
          refine walk (both g0 (both g3 hlt)) ?_
          by_cases h2 : s = [46]
          · subst h2
            refine walk g0 ?_
            exact ⟨rfl, rfl⟩
          · by_cases h3 : s = [46, 46]
            · subst h3
              refine walk g0 ?_
              exact ⟨rfl, rfl⟩
            · refine walk (both g0 (both h2 h3)) ?_
              exact ⟨by simp [nameE, h0, h1, h2, h3, hno], rfl⟩
theorem pathNames_main (s : List UInt8) (H : Heap) (hl : s.length ≤ maxLen) : Cl Try.prog pr03 3 [.str s] H fun v _ => v = .bool true := by
  refine Cl.enter Try.func3 rfl rfl Try.ntmps3 (by simp) ?_
  refine walk none0 ?_
  by_cases h : 3000 < s.length
  · have ht : (s.take 3000).length ≤ 3000 := by simp; omega
    refine walk h ?_
    refine (name_ok (s.take 3000) ht H).mono fun v H1 _ ⟨e1, e2⟩ => ?_
    subst e1; subst e2
    refine walk none0 ?_
    refine (refName_ok (s.take 3000) ht H1).mono fun v H1 _ ⟨e1, e2⟩ => ?_
    subst e1; subst e2
    refine walk none0 ?_
    refine (lives_ok H1).mono fun v H1 _ ⟨e1, e2⟩ => ?_
    subst e1; subst e2
    refine walk none0 ?_
    rfl
  · refine walk h ?_
    refine (name_ok s (by omega) H).mono fun v H1 _ ⟨e1, e2⟩ => ?_
    subst e1; subst e2
    refine walk none0 ?_
    refine (refName_ok s (by omega) H1).mono fun v H1 _ ⟨e1, e2⟩ => ?_
    subst e1; subst e2
    refine walk none0 ?_
    refine (lives_ok H1).mono fun v H1 _ ⟨e1, e2⟩ => ?_
    subst e1; subst e2
    refine walk none0 ?_
    rfl
end Go.Abs

/- The seat's own facts for its rows. -/
namespace Go.Proofs.Ytdndkchlkgldmaa
open Go.ChangeShapes Go.WideShapes Go.ChangeAt Go.RowKit Go.Abs
set_option linter.unusedVariables false
set_option maxRecDepth 100000

theorem own : ownKnob Try.prog.godebug = none := by kernel_rfl
theorem laidOut : laidOutB Try.prog = true := by kernel_rfl
theorem mixed : Try.prog.follows .mixedOrders = true := by kernel_rfl
theorem plainN : plainNames Try.prog = true := by kernel_rfl
theorem baseOk : PrimsOk Try.prog base03 := orPrims_ok (extPrims_ok (by intro p hp; simp at hp; subst hp; exact Try.says60)) (bodyPrims_ok (by intro p hp; simp at hp; subst hp; exact Try.says25))
theorem baseRl : PrimsRl base03 := orPrims_rl (extPrims_rl _) (extPrims_rl _)
theorem run10 : ((acall Try.prog base03 40 10 [] (Heap.start Try.prog.globals.size)).map fun r => sameAV r.1 (.bool true)) = some true := by kernel_rfl
theorem runs10 : ∃ n H', acall Try.prog base03 n 10 [] (Heap.start Try.prog.globals.size) = some (.bool true, H') := runs_on run10
theorem primsOk : PrimsOk Try.prog pr03 := by
  refine orPrims_ok (closedPrims_on mixed plainN baseOk fun p hp => ?_) baseOk
  simp at hp
  subst hp
  exact ⟨rfl, runs10⟩
theorem primsRl : PrimsRl pr03 := orPrims_rl (closedPrims_rl _) baseRl
end Go.Proofs.Ytdndkchlkgldmaa

/- PathNames: the row. -/
namespace Go.Proofs.Ytdndkchlkgldmaa
open Go.ChangeShapes Go.WideShapes Go.ChangeAt Go.RowKit Go.Abs
set_option linter.unusedVariables false
set_option maxRecDepth 100000

theorem pathNamesMain (H : Heap) (xs : List AV) (hG : Try.prog.globals.size ≤ H.next) (hw : Wf H) (h : PicAll Try.prog H 3 [9] xs) : CallsA Try.prog pr03 3 xs H fun v _ => v = .bool true := by
  obtain ⟨a0, r0, rfl, h0, hend⟩ := h
  obtain rfl : r0 = [] := hend
  refine Cl.callsA primsRl hw ?_
  obtain ⟨z0, rfl, w0⟩ := picV_str Try.underlying9 h0
  exact pathNames_main z0 H w0

theorem pathNamesLifted (os : Os) (started : os.Started) (H : Type) (enc : TypeId × Value → H) :
    ReturnsInHanded {} Try.checked os 3 .any (Rows.pathNamesSpec.pre6 enc Try.prog Try.f3 Rows.pathNamesRow.domain false) (Rows.pathNamesSpec.post enc Try.prog Try.f3 false true false false) := by
  refine returnsInHanded_of_change (C := Try.checked) own started (by kernel_rfl) Try.func3
    (ChangeSpec.witness6 (enc := enc) (C := Try.checked) false ⟨#[], #[.string ⟨#[]⟩], []⟩ 8 (by kernel_rfl) (by kernel_rfl) (by kernel_rfl) (by kernel_rfl)) ?_
  intro W base args ds gs before hval hW hcnd _
  have ep : Try.f3.params.toList = [9] := by kernel_rfl
  refine law_post laidOut rfl (fun ds h => ?_) (tb := 4) (by kernel_rfl) Try.underlying4 ?_ hW (fun p hA => ?_)
  · rw [ep] at h
    match ds, h with
    | [a0], _ => rfl
  · rw [ep]
    intro t ht
    simp at ht
    subst ht; exact ⟨by kernel_rfl, of_decide_eq_true (by kernel_rfl)⟩
  · refine law_calls primsOk mixed plainN Try.func3 rfl (n := 3) (base := base) (ts := Try.f3.params.toList) ?_ ?_ ?_ hA
    · rw [ep]
      intro t ht
      simp at ht
      subst ht; kernel_rfl
    · rw [ep]
      exact pathNamesMain
    · intro j t v h1 h2
      exact hval j t v (by simpa using h1) (by simpa using h2)

theorem pathNames : Rows.PathNamesSaid :=
  OpenClaim.holds_of_wide 3 Try.f3 rfl rfl rfl rfl rfl rfl rfl ⟨rfl, rfl, rfl, rfl, rfl⟩ rfl rfl rfl rfl rfl (by kernel_rfl) Try.func3 (by kernel_rfl)
    (of_decide_eq_true (by kernel_rfl)) (by unfold Func.isWrapper; first | (rw [if_pos (by decide +kernel)]; kernel_rfl) | (rw [if_neg (by decide +kernel)]; exact ⟨rfl, rfl⟩))
    (fun os started H enc _ => pathNamesLifted os started H enc)
-- #print axioms pathNames
end Go.Proofs.Ytdndkchlkgldmaa
