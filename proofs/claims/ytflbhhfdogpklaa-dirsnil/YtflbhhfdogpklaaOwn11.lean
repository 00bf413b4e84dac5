/- Texts on this program, joined. -/
import Derived.Test.YtflbhhfdogpklaaOwn09
import Derived.Test.YtflbhhfdogpklaaKit10
import Derived.Test.YtflbhhfdogpklaaKit04
import Derived.Test.YtflbhhfdogpklaaKit06
import Derived.Test.YtflbhhfdogpklaaKit03
import Derived.Test.YtflbhhfdogpklaaOwn07
import Derived.Test.YtflbhhfdogpklaaRows
import Derived.WalkKit
import Derived.ProofKit
import Derived.OpenShut
import Derived.ShutString
import Derived.ChangeOld
import Derived.Below

/- Chapter 05: slices.Insert on the abstract machine: at the end, and where there is no room. -/
namespace Go.Abs
open Go.Proofs
set_option maxRecDepth 100000
set_option linter.unusedVariables false
set_option linter.unusedSimpArgs false

theorem app52 {H H' : Heap} {base : Option (Nat × Nat)} {n cap vb vo vc : Nat} {sl vsl : Option Nat} {v : AV} {vcs : List AV} {mk : Bool} (hv : H.get vb = some (.cells vcs 57 true mk)) (hvl : vo + 2 ≤ vcs.length)
    (ha : appendA 57 2 24 base n cap sl 1 ((vcs.drop vo).take 2) H = some (v, H')) {N : Nat} {e : Nat → AV} {xs : Array Operand} (hx : mapOpt (ev Try.prog (tab N e)) xs.toList = some [.slice base n cap sl, .slice (some (vb, vo)) 1 vc vsl]) :
    opR Try.prog N e (.call { callee := .builtin .append, args := xs, argTypes := #[52, 52] }) H = some (v, H') := by
  have hs : srcCells H 2 1 (.slice (some (vb, vo)) 1 vc vsl) = some ((vcs.drop vo).take 2) := by
    simp only [srcCells, cellsAt, hv]
    rw [if_neg (by decide), if_pos (by decide), if_pos (by omega)]
  rw [opR_builtin, hx, append_eq (t := 52) (elem := 57) (s := 2) (bytes := 24) (z := .agg [.str [], .int .i64 0]) (t1 := 52) (d1 := .slice 57) rfl Try.underlying52 (by kernel_rfl) (by kernel_rfl) (by kernel_rfl) rfl (by kernel_rfl) rfl Try.underlying52 rfl hs (by simp; omega)]
  exact ha
theorem insEnd {H H' : Heap} {base : Option (Nat × Nat)} {n cap vb vo vc : Nat} {sl vsl : Option Nat} {v : AV} {vcs : List AV} {mk : Bool} (hv : H.get vb = some (.cells vcs 57 true mk)) (hvl : vo + 2 ≤ vcs.length)
    (ha : appendA 57 2 24 base n cap sl 1 ((vcs.drop vo).take 2) H = some (v, H')) (hn : n ≤ cap) (hsl : sl = none ∨ sl = some 2) (hnil : base = none → n = 0 ∧ cap = 0) : Cl Try.prog noPrims 24 [.slice base n cap sl, .int .i64 n, .slice (some (vb, vo)) 1 vc vsl] H fun r H2 => r = v ∧ H2 = H' := by
  cases base with
  | none =>
    obtain ⟨rfl, rfl⟩ := hnil rfl
    refine Cl.enter Try.func24 rfl rfl Try.ntmps24 (by simp) ?_
    refine walk hn ?_
    refine Oq.o1 (app52 (vc := vc) (vsl := vsl) hv hvl ha (by simp)) ?_
    refine walk none0 ?_
    exact ⟨rfl, rfl⟩
  | some q =>
    obtain ⟨b, o⟩ := q
    refine Cl.enter Try.func24 rfl rfl Try.ntmps24 (by simp) ?_
    refine walk (both hn hsl) ?_
    refine Oq.o1 (app52 (vc := vc) (vsl := vsl) hv hvl ha (by simp)) ?_
    refine walk none0 ?_
    exact ⟨rfl, rfl⟩
theorem appN52 {H : Heap} {b o i n : Nat} {c : List AV} {m : Bool} (hb : H.get b = some (.cells c 57 true m)) (hi : i ≤ n) (hcl : o + n * 2 ≤ c.length) (hn : n ≤ 1000) {N : Nat} {e : Nat → AV} {xs : Array Operand} (hx : mapOpt (ev Try.prog (tab N e)) xs.toList = some [.slice (some (b, o)) i n none, .int .i64 ((n : Int) + 1 - i)]) :
    opR Try.prog N e (.call { callee := .builtin .append, args := xs, argTypes := #[52, 3] }) H = some (.slice (some (H.next, 0)) (n + 1) (n + 1) (some 2), H.push (.cells ((c.drop o).take (i * 2) ++ zeros [.str [], .int .i64 0] (n + 1 - i)) 57 true false)) := by
  have g1 : tsz Try.prog 57 = some 2 := by kernel_rfl
  have g2 : tbytes Try.prog 57 = some 24 := by kernel_rfl
  have g3 : tzero Try.prog 57 = some (.agg [.str [], .int .i64 0]) := by kernel_rfl
  have hc : isCount Try.prog (some 3) = true := by kernel_rfl
  have hts : (#[52, 3] : Array TypeId)[0]? = some 52 := rfl
  have hts1 : (#[52, 3] : Array TypeId)[1]? = some 3 := rfl
  have hl : ((n : Int) + 1 - i).toNat = n + 1 - i := by omega
  have hsrc : srcCells H 2 i (.slice (some (b, o)) i n none) = some ((c.drop o).take (i * 2)) := by
    simp only [srcCells, cellsAt, hb]
    by_cases h0 : i * 2 = 0
    · rw [if_pos h0, h0]; rfl
    · rw [if_neg h0, if_pos (Nat.le_refl _), if_pos (by omega)]
  rw [opR_builtin, hx, builtinR_eq]
  simp only [builtinSem, appendSem, hts, hts1, Try.underlying52, g1, g2, g3, hc, if_true, AV.cells, List.length_cons, List.length_nil, ne_eq, not_true, if_false, Nat.reduceAdd]
  rw [if_pos ⟨by omega, by omega, by omega⟩]
  simp only [Sm.run, appendA, hl]
  rw [if_neg (by omega), if_pos (by simp only [growFits, Bool.and_eq_true, Bool.or_eq_true, decide_eq_true_eq]; exact ⟨by omega, .inl ⟨by omega, by omega⟩⟩)]
  simp only [hsrc]
  rw [show i + (n + 1 - i) = n + 1 by omega]
theorem copy52 {H : Heap} {b o dl c b2 o2 ml c2 k : Nat} {ex ex2 : Option Nat} {cd cs : List AV} {u u2 : TypeId} {mk w2 m2 : Bool} (hk : min ml dl = k) (h0 : 0 < k) (hb : H.get b = some (.cells cd u true mk)) (hb2 : H.get b2 = some (.cells cs u2 w2 m2)) (h1 : o + k * 2 ≤ cd.length) (h2 : o2 + k * 2 ≤ cs.length) (hone : ((cs.drop o2).take (k * 2)).all AV.one = true)
    {N : Nat} {e : Nat → AV} {xs : Array Operand} (hx : mapOpt (ev Try.prog (tab N e)) xs.toList = some [.slice (some (b, o)) dl c ex, .slice (some (b2, o2)) ml c2 ex2]) :
    opR Try.prog N e (.call { callee := .builtin .copy, args := xs, argTypes := #[52, 52] }) H = some (.int .i64 k, H.set b (.cells (cd.take o ++ ((cs.drop o2).take (k * 2) ++ cd.drop (o + k * 2))) u true mk)) := by
  have g1 : elemS Try.prog 52 = some 2 := by kernel_rfl
  have hk' : Nat.min ml dl = k := hk
  have hl : ((cs.drop o2).take (k * 2)).length = k * 2 := by simp; omega
  have hts : (#[52, 52] : Array TypeId)[0]? = some 52 := rfl
  rw [opR_builtin, hx, copyR_eq]
  simp only [hts, g1, srcLen, hk']
  have hsrc : srcCells H 2 k (.slice (some (b2, o2)) ml c2 ex2) = some ((cs.drop o2).take (k * 2)) := by
    simp only [srcCells, cellsAt, hb2]
    rw [if_neg (by omega), if_pos (by have := Nat.min_le_left ml dl; omega), if_pos h2]
  simp only [hsrc, hl, ne_eq, not_true, if_false]
  rw [writeCells_eq hb (by rw [hl]; exact h1) (by rw [hl]; omega) hone, hl]
theorem zeros52 : ∀ k, (zeros [.str [], .int .i64 0] k).length = k * 2
  | 0 => rfl
  | k + 1 => by simp only [zeros, List.length_append, List.length_cons, List.length_nil]; rw [zeros52 k]; omega
theorem grownL {c new Z : List AV} {o n i : Nat} (hi : i < n) (hcl : o + n * 2 ≤ c.length) (hnew : new.length = 2) (hz : Z.length = (n + 1 - i) * 2) :
    (((((c.drop o).take (i * 2)) ++ Z).take (i * 2) ++ (new ++ (((c.drop o).take (i * 2)) ++ Z).drop (i * 2 + 1 * 2))).take ((i + 1) * 2) ++ ((c.drop (o + i * 2)).take ((n - i) * 2) ++ ((((c.drop o).take (i * 2)) ++ Z).take (i * 2) ++ (new ++ (((c.drop o).take (i * 2)) ++ Z).drop (i * 2 + 1 * 2))).drop ((i + 1) * 2 + (n - i) * 2))) =
      ((c.drop o).take (n * 2)).take (i * 2) ++ (new ++ ((c.drop o).take (n * 2)).drop (i * 2)) := by
  have hA : ((c.drop o).take (i * 2)).length = i * 2 := by simp; omega
  have e1 : ((c.drop o).take (n * 2)).take (i * 2) = (c.drop o).take (i * 2) := by rw [List.take_take, Nat.min_eq_left (by omega)]
  have e2 : ((c.drop o).take (n * 2)).drop (i * 2) = (c.drop (o + i * 2)).take ((n - i) * 2) := by
    rw [List.drop_take, List.drop_drop, show n * 2 - i * 2 = (n - i) * 2 by omega]
  rw [e1, e2]
  generalize (c.drop o).take (i * 2) = A at *
  generalize (c.drop (o + i * 2)).take ((n - i) * 2) = M at *
  have e3 : (A ++ Z).take (i * 2) = A := by rw [← hA, List.take_left]
  rw [e3]
  have e4 : ((A ++ Z).drop (i * 2 + 1 * 2)).length = (n - i) * 2 := by rw [List.length_drop, List.length_append, hA, hz]; omega
  generalize (A ++ Z).drop (i * 2 + 1 * 2) = D at *
  have e5 : (A ++ (new ++ D)).take ((i + 1) * 2) = A ++ new := by
    rw [← List.append_assoc, show (i + 1) * 2 = (A ++ new).length by rw [List.length_append, hA, hnew]; omega, List.take_left]
  have e6 : (A ++ (new ++ D)).drop ((i + 1) * 2 + (n - i) * 2) = [] := List.drop_eq_nil_of_le (by rw [List.length_append, List.length_append, hA, hnew, e4]; omega)
  rw [e5, e6, List.append_nil, List.append_assoc]
theorem insGrow {H : Heap} {b o n i vb vo vc : Nat} {vsl : Option Nat} {c vcs : List AV} {m mk : Bool} (hb : H.get b = some (.cells c 57 true m)) (hv : H.get vb = some (.cells vcs 57 true mk)) (hvl : vo + 2 ≤ vcs.length) (hcl : o + n * 2 ≤ c.length)
    (hi : i < n) (hn : n ≤ 1000) (hwf : b < H.next ∧ vb < H.next) (hone1 : ((vcs.drop vo).take (1 * 2)).all AV.one = true) (hone2 : ((c.drop (o + i * 2)).take ((n - i) * 2)).all AV.one = true) :
    Cl Try.prog noPrims 24 [.slice (some (b, o)) n n none, .int .i64 i, .slice (some (vb, vo)) 1 vc vsl] H fun r H2 => r = .slice (some (H.next, 0)) (n + 1) (n + 1) (some 2) ∧ (∀ x, x ≠ H.next → H2.get x = H.get x) ∧ H2.next = H.next + 1 ∧
      H2.get H.next = some (.cells (((c.drop o).take (n * 2)).take (i * 2) ++ ((vcs.drop vo).take 2 ++ ((c.drop o).take (n * 2)).drop (i * 2))) 57 true false) := by
  have h1 : ¬ ((i : Int) = n) := by omega
  have h2 : (i : Int) ≤ n := by omega
  have h3 : ¬ i = n := by omega
  refine Cl.enter Try.func24 rfl rfl Try.ntmps24 (by simp) ?_
  refine walk (both h1 (both h2 (both h3 hi))) ?_
  have hnew : ((vcs.drop vo).take 2).length = 2 := by simp; omega
  have hA : ((c.drop o).take (i * 2)).length = i * 2 := by simp; omega
  have hz := zeros52 (n + 1 - i)
  have happ := fun (N : Nat) (e : Nat → AV) (xs : Array Operand) => appN52 (N := N) (e := e) (xs := xs) (i := i) (n := n) hb (by omega) hcl hn
  have hgl := fun (Z : List AV) => grownL (c := c) (new := (vcs.drop vo).take 2) (o := o) (Z := Z) hi hcl hnew
  generalize zeros [.str [], .int .i64 0] (n + 1 - i) = Z at *
  have hgl := hgl Z hz
  refine Oq.o1 (happ _ _ _ (by simp)) ?_
  have hv1 : (H.push (.cells ((c.drop o).take (i * 2) ++ Z) 57 true false)).get vb = some (.cells vcs 57 true mk) := by rw [Heap.get_push, if_neg (by omega)]; exact hv
  have hb1 : (H.push (.cells ((c.drop o).take (i * 2) ++ Z) 57 true false)).get b = some (.cells c 57 true m) := by rw [Heap.get_push, if_neg (by omega)]; exact hb
  have hn1 : (H.push (.cells ((c.drop o).take (i * 2) ++ Z) 57 true false)).get H.next = some (.cells ((c.drop o).take (i * 2) ++ Z) 57 true false) := by simp
  have hne : b ≠ H.next := by omega
  refine walk (both h2 hi) ?_
  refine Oq.o1 (copy52 (k := 1) (b := H.next) (o := i * 2) (b2 := vb) (o2 := vo) (cd := (c.drop o).take (i * 2) ++ Z) (cs := vcs) (dl := n + 1 - i) (c := n + 1 - i) (ex := some 2) (ml := 1) (c2 := vc) (ex2 := vsl) (by omega) (by omega) hn1 hv1 (by rw [List.length_append, hA, hz]; omega) (by omega) hone1 (by simp)) ?_
  have hl1 : (((c.drop o).take (i * 2) ++ Z).take (i * 2) ++ ((vcs.drop vo).take (1 * 2) ++ ((c.drop o).take (i * 2) ++ Z).drop (i * 2 + 1 * 2))).length = (n + 1) * 2 := by
    simp only [List.length_append, List.length_take, List.length_drop, hz]
    omega
  generalize hC1 : ((c.drop o).take (i * 2) ++ Z).take (i * 2) ++ ((vcs.drop vo).take (1 * 2) ++ ((c.drop o).take (i * 2) ++ Z).drop (i * 2 + 1 * 2)) = C1 at *
  have g2 : ((H.push (.cells ((c.drop o).take (i * 2) ++ Z) 57 true false)).set H.next (.cells C1 57 true false)).get H.next = some (.cells C1 57 true false) := Heap.get_set_same _ _ _
  have g2b : ((H.push (.cells ((c.drop o).take (i * 2) ++ Z) 57 true false)).set H.next (.cells C1 57 true false)).get b = some (.cells c 57 true m) := by rw [Heap.get_set_ne _ _ hne]; exact hb1
  have g2x : ∀ x, x ≠ H.next → ((H.push (.cells ((c.drop o).take (i * 2) ++ Z) 57 true false)).set H.next (.cells C1 57 true false)).get x = H.get x := fun x hx => by rw [Heap.get_set_ne _ _ hx, Heap.get_push, if_neg hx]
  have n2 : ((H.push (.cells ((c.drop o).take (i * 2) ++ Z) 57 true false)).set H.next (.cells C1 57 true false)).next = H.next + 1 := by simp
  generalize (H.push (.cells ((c.drop o).take (i * 2) ++ Z) 57 true false)).set H.next (.cells C1 57 true false) = H2 at *
  refine walk none0 ?_
  refine Wq.regionD [0, 1, 2, 3, 4, 5, 6, 7, 8] (by kernel_rfl) ?_
  refine walk (both h2 hi) ?_
  refine Oq.o1 (copy52 (k := n - i) (b := H.next) (o := (i + 1) * 2) (b2 := b) (o2 := o + i * 2) (cd := C1) (cs := c) (dl := ((n : Int) + 1 - ((i : Int) + 1)).toNat) (c := ((n : Int) + 1 - ((i : Int) + 1)).toNat) (ex := some 2) (ml := n - i) (c2 := n - i) (ex2 := none) (by omega) (by omega) g2 g2b (by rw [hl1]; omega) (by omega) hone2 (by simp)) ?_
  refine walk none0 ?_
  refine ⟨rfl, fun x hx => ?_, by simp [n2], ?_⟩
  · rw [Heap.get_set_ne _ _ hx]
    exact g2x x hx
  · rw [Heap.get_set_same, ← hgl]
end Go.Abs

/- Chapter 05: slices.Insert told by hand. -/
namespace Go.Abs
open Go.Proofs Go.Lib
set_option maxRecDepth 100000
set_option linter.unusedVariables false
set_option linter.unusedSimpArgs false

/-- What Insert of one entry makes. -/
def insP : List AV → Heap → Option (AV × Heap)
  | [.slice base n cap sl, .int .i64 i, .slice (some (vb, vo)) 1 vc vsl], H =>
    match H.get vb with
    | some (.cells vcs 57 true false) =>
      if vo + 2 ≤ vcs.length ∧ ((vcs.drop vo).take 2).all AV.one = true ∧ n ≤ cap ∧ n ≤ 1000 ∧ (sl = none ∨ sl = some 2) ∧ (base = none → n = 0 ∧ cap = 0) then
        if i = n then appendA 57 2 24 base n cap sl 1 ((vcs.drop vo).take 2) H
        else if 0 ≤ i ∧ i < n then
          match base with
          | some (b, o) => match H.get b with
            | some (.cells c 57 true false) =>
              if b ≠ vb ∧ o + n * 2 ≤ c.length ∧ o + cap * 2 ≤ c.length ∧ ((c.drop o).take (n * 2)).all AV.one = true then
                some (.slice (some (H.next, 0)) (n + 1) (n + 1) (some 2), (H.set b .dead).push (.cells (((c.drop o).take (n * 2)).take (i.toNat * 2) ++ ((vcs.drop vo).take 2 ++ ((c.drop o).take (n * 2)).drop (i.toNat * 2))) 57 true false))
              else none
            | _ => none
          | none => none
        else none
      else none
    | _ => none
  | _, _ => none
def insPrims : Prims := fun f => if f = 24 then some insP else none

theorem vrels3 {ρ : Map} {a b c : AV} {us : Array Value} (h : VRels ρ [a, b, c] us.toList) : ∃ u v x, us = #[u, v, x] ∧ VRel ρ a u ∧ VRel ρ b v ∧ VRel ρ c x := by
  obtain ⟨u, l1, e1, h1, v, l2, e2, h2, x, l3, e3, h3, e4⟩ := h
  cases e4
  exact ⟨u, v, x, by rw [← Array.toArray_toList (xs := us), e1, e2, e3], h1, h2, h3⟩
theorem mixed05 : Try.prog.follows .mixedOrders = true := by kernel_rfl
theorem plain05 : plainNames Try.prog = true := by kernel_rfl
theorem noRl : PrimsRl noPrims := by intro f g h; simp [noPrims] at h

section
variable {ρ : Map} {H : Heap} {w : World}
/-- Where there is no room: a new array. -/
theorem ins_new {b o n i vb vo vc : Nat} {vsl : Option Nat} {c vcs : List AV} (hs : Sim Try.prog.globals.size ρ H w) (hwf : Wf H) (hfree : ρ H.next = none) (hb : H.get b = some (.cells c 57 true false)) (hv : H.get vb = some (.cells vcs 57 true false)) (hvl : vo + 2 ≤ vcs.length) (hcl : o + n * 2 ≤ c.length)
    (hi : i < n) (hn : n ≤ 1000) (hone1 : ((vcs.drop vo).take 2).all AV.one = true) (hone2 : ((c.drop o).take (n * 2)).all AV.one = true) {us : Array Value} (hargs : VRels ρ [.slice (some (b, o)) n n none, .int .i64 i, .slice (some (vb, vo)) 1 vc vsl] us.toList) :
    Calls Try.prog 24 us w fun e w' => ∃ u, e = .returned u ∧ ∃ ρ', Good Try.prog.globals.size ρ H w ρ' ((H.set b .dead).push (.cells (((c.drop o).take (n * 2)).take (i * 2) ++ ((vcs.drop vo).take 2 ++ ((c.drop o).take (n * 2)).drop (i * 2))) 57 true false)) w' ∧ VRel ρ' (.slice (some (H.next, 0)) (n + 1) (n + 1) (some 2)) u := by
  have hbl := hwf.lt hb
  have hvbl := hwf.lt hv
  have h2 : ((c.drop (o + i * 2)).take ((n - i) * 2)).all AV.one = true := by
    rw [List.all_eq_true] at hone2 ⊢
    intro x hx
    refine hone2 x ?_
    have e : (c.drop (o + i * 2)).take ((n - i) * 2) = ((c.drop o).take (n * 2)).drop (i * 2) := by rw [List.drop_take, List.drop_drop, show n * 2 - i * 2 = (n - i) * 2 by omega]
    rw [e] at hx
    exact List.mem_of_mem_drop hx
  have hC := insGrow (vc := vc) (vsl := vsl) hb hv hvl hcl hi hn ⟨hbl, hvbl⟩ (by simpa using hone1) h2
  unfold Cl at hC
  have hC := hC noRl hwf
  unfold CallsA at hC
  obtain ⟨k, v, H2, hcall, e1, e2, e3, e4⟩ := hC
  subst e1
  refine (acall_sound (noPrims_ok Try.prog) mixed05 plain05 Try.func24 rfl hcall hs hwf (fun x h3 h4 => (show x = H.next by omega) ▸ hfree) hargs).mono fun e w' ⟨u, hu, ρ', hg, hr⟩ => ⟨u, hu, ρ', ?_, hr⟩
  have hb2 : H2.get b = some (.cells c 57 true false) := (e2 b (by omega)).trans hb
  refine (hg.trans (Good.kill hg.sim hb2)).congr (fun x => ?_) (by simp; omega)
  rw [Heap.get_push, Heap.get_set, Heap.next_set]
  by_cases hx : x = H.next
  · rw [if_pos hx, Heap.get_set_ne _ _ (show x ≠ b by omega), hx, e4]
  · rw [if_neg hx, Heap.get_set]
    split
    · rfl
    · exact (e2 x hx).symm
theorem overlaps_no {b o vb vo lb cb vc : Nat} {c vcs : List AV} {p q : Place} (hs : Sim Try.prog.globals.size ρ H w) (hb : H.get b = some (.cells c 57 true false)) (hv : H.get vb = some (.cells vcs 57 true false)) (hne : b ≠ vb) (hp : ρ b = some p) (hq : ρ vb = some q) (h0 : 0 < c.length) :
    (callFunc 34 #[.slice (some ⟨q.blk, q.off + vo, none⟩) 1 vc, .slice (some ⟨p.blk, o, none⟩) lb cb]).run Try.prog w = .ok (.value (.bool false)) w := by
  have hblk : q.blk ≠ p.blk := fun e => hs.apart b vb _ _ p q hb hv hne rfl rfl hp hq e.symm
  obtain ⟨p1, C, el, fr, hp1, hh, hc, hl1, hl2, hown⟩ := hs.obj b _ hb
  rw [hp] at hp1; injection hp1 with hp1; subst hp1
  obtain ⟨q1, D, el2, fr2, hq1, hh2, hc2, hl3, hl4, hown2⟩ := hs.obj vb _ hv
  rw [hq] at hq1; injection hq1 with hq1; subst hq1
  have hfr2 : fr2 = (0, 0) := by
    rcases (hown2 rfl).2 with h | ⟨h, _⟩
    · exact h
    · cases h
  subst hfr2
  rw [run_callFunc_extern Try.func34 (by kernel_rfl) (by kernel_rfl) (by kernel_rfl) (e := Extern.SlicesOverlaps.overlaps #[52, 52] #[4]) (by kernel_rfl),
    Lib.run_overlaps_apart w 52 4 57 Try.underlying52 2 Try.sizeOf57 ⟨q.blk, q.off + vo, none⟩ ⟨p.blk, o, none⟩ 1 vc lb cb hblk el2 el D.size C.size (by simp [World.shape?, hh2]) (by simp [World.shape?, hh]) (by omega) (by simp [World.frozen?, hh2]) (by simp [World.frozen?, hh2])]
  rfl
/-- Where there is room: in place. -/
theorem ins_room {b o n i vb vo vc c' : Nat} {vsl : Option Nat} {c vcs : List AV} {p : Place} {u2 : Value} (hs : Sim Try.prog.globals.size ρ H w) (hwf : Wf H) (hfree : ρ H.next = none) (hb : H.get b = some (.cells c 57 true false)) (hv : H.get vb = some (.cells vcs 57 true false)) (hvl : vo + 2 ≤ vcs.length) (hcl : o + n * 2 ≤ c.length)
    (hi : i < n) (hn : n ≤ 1000) (hne : b ≠ vb) (hone1 : ((vcs.drop vo).take 2).all AV.one = true) (hone2 : ((c.drop o).take (n * 2)).all AV.one = true) (hp : ρ b = some p) (hroom : n + 1 ≤ c') (htot : o + c' * 2 ≤ p.tot) (hu2 : VRel ρ (.slice (some (vb, vo)) 1 vc vsl) u2) :
    Calls Try.prog 24 #[.slice (some ⟨p.blk, p.off + o, none⟩) n c', .int .i64 i, u2] w fun e w' => ∃ u, e = .returned u ∧ ∃ ρ', Good Try.prog.globals.size ρ H w ρ' ((H.set b .dead).push (.cells (((c.drop o).take (n * 2)).take (i * 2) ++ ((vcs.drop vo).take 2 ++ ((c.drop o).take (n * 2)).drop (i * 2))) 57 true false)) w' ∧ VRel ρ' (.slice (some (H.next, 0)) (n + 1) (n + 1) (some 2)) u := by
  have hbl := hwf.lt hb
  have hvbl := hwf.lt hv
  obtain ⟨q, y, cv, hq, rfl, gv1, gv2, gv5, gv6⟩ := hu2
  have hy : y = ⟨q.blk, q.off + vo, none⟩ := by
    rcases gv5 with h | h
    · omega
    · exact h
  subst hy
  have hov := fun lb cb => overlaps_no (o := p.off + o + (i + 1) * 2) (vo := vo) (lb := lb) (cb := cb) (vc := cv) hs hb hv hne hp hq (by omega)
  have hg1 := Good.retarget (e2 := 57) hs hfree hb hp hcl
  have hl0 : ((c.drop o).take (n * 2)).length = n * 2 := by simp; omega
  have hp1 : (upd ρ H.next ⟨p.blk, p.off + o, p.tot - o⟩) H.next = some ⟨p.blk, p.off + o, p.tot - o⟩ := upd_same _ _ _
  have hqv : (upd ρ H.next ⟨p.blk, p.off + o, p.tot - o⟩) vb = some q := by rw [upd_ne _ _ (by omega)]; exact hq
  generalize hC0 : (c.drop o).take (n * 2) = C0 at *
  have hH1 : ((H.set b .dead).push (.cells C0 57 true false)).get H.next = some (.cells C0 57 true false) := by rw [Heap.get_push, Heap.next_set, if_pos rfl]
  have hV1 : ((H.set b .dead).push (.cells C0 57 true false)).get vb = some (.cells vcs 57 true false) := by rw [Heap.get_push, Heap.next_set, if_neg (by omega), Heap.get_set_ne _ _ (fun e => hne e.symm)]; exact hv
  generalize upd ρ H.next ⟨p.blk, p.off + o, p.tot - o⟩ = ρ1 at *
  have hg2 := good_drawn hg1.sim
  have hmv : ((C0.drop (i * 2)).take ((n - i) * 2)) = C0.drop (i * 2) := List.take_of_length_le (by rw [List.length_drop, hl0]; omega)
  have hsrc1 : srcCells ((H.set b .dead).push (.cells C0 57 true false)) 2 (n - i) (.slice (some (H.next, i * 2)) (n + 1 - i) (c' - i) none) = some (C0.drop (i * 2)) := by
    simp only [srcCells, cellsAt, hH1]
    rw [if_neg (by omega), if_pos (by omega), if_pos (by rw [hl0]; omega), hmv]
  have hlm : (C0.drop (i * 2)).length = (n - i) * 2 := by rw [List.length_drop, hl0]; omega
  obtain ⟨W1, hr1, hg3⟩ := copy_runX (P := Try.prog) (t1 := 52) (t2 := 52) (elem := 57) (size := 2) (k := n - i) (n := n + 1 - i) (dLen := n - i) (o := (i + 1) * 2) (x := .slice (some (H.next, i * 2)) (n + 1 - i) (c' - i) none) (ux := .slice (some ⟨p.blk, p.off + o + i * 2, none⟩) (n + 1 - i) (c' - i)) (cells := C0.drop (i * 2)) hg2.sim hH1 hp1 Try.underlying52 (by kernel_rfl)
    ⟨_, _, _, hp1, rfl, by omega, Nat.le_refl _, .inr rfl, .inl rfl⟩ rfl (by show min _ _ = _; omega) hsrc1 hlm (by rw [hl0]; omega) (by rw [hl0, hlm]; omega) (by rw [hlm]; simp only []; omega) (by
      rw [List.all_eq_true] at hone2 ⊢
      exact fun x hx => hone2 x (List.mem_of_mem_drop hx))
  have hl1 : (C0.take ((i + 1) * 2) ++ C0.drop (i * 2)).length = (n + 1) * 2 := by rw [List.length_append, List.length_take, hl0, hlm]; omega
  have hH2 : (((H.set b .dead).push (.cells C0 57 true false)).set H.next (.cells (C0.take ((i + 1) * 2) ++ C0.drop (i * 2)) 57 true false)).get H.next = some (.cells (C0.take ((i + 1) * 2) ++ C0.drop (i * 2)) 57 true false) := Heap.get_set_same _ _ _
  have hV2 : (((H.set b .dead).push (.cells C0 57 true false)).set H.next (.cells (C0.take ((i + 1) * 2) ++ C0.drop (i * 2)) 57 true false)).get vb = some (.cells vcs 57 true false) := by rw [Heap.get_set_ne _ _ (by omega)]; exact hV1
  have hsrc2 : srcCells (((H.set b .dead).push (.cells C0 57 true false)).set H.next (.cells (C0.take ((i + 1) * 2) ++ C0.drop (i * 2)) 57 true false)) 2 1 (.slice (some (vb, vo)) 1 vc vsl) = some ((vcs.drop vo).take 2) := by
    simp only [srcCells, cellsAt, hV2]
    rw [if_neg (by decide), if_pos (by decide), if_pos (by omega)]
  have hlv : ((vcs.drop vo).take 2).length = 2 := by simp; omega
  obtain ⟨W2, hr2, hg4⟩ := copy_runW (P := Try.prog) (t1 := 52) (t2 := 52) (elem := 57) (size := 2) (k := 1) (n := 1) (dLen := n + 1 - i) (o := i * 2) (x := .slice (some (vb, vo)) 1 vc vsl) (ux := .slice (some ⟨q.blk, q.off + vo, none⟩) 1 cv) (cells := (vcs.drop vo).take 2) hg3.sim hH2 hp1 Try.underlying52 (by kernel_rfl)
    ⟨_, _, _, hqv, rfl, gv1, gv2, .inr rfl, gv6⟩ rfl (by show min _ _ = _; omega) hsrc2 (by rw [hlv, hl1]; omega) hone1
  have hsh := Try.insShift p.blk (p.off + o) n c' i q.blk (q.off + vo) cv w W1 W2 hi hroom hn hov (fun ty dc => hr1 ty dc) (fun ty dc => hr2 ty dc)
  refine hsh.mono fun e w' ⟨he, hw⟩ => ⟨_, he, ρ1, ?_, ⟨p.blk, p.off + o, p.tot - o⟩, _, c', hp1, rfl, Nat.le_refl _, hroom, .inr rfl, .inr ⟨2, rfl, by simp only []; omega⟩⟩
  subst hw
  refine ((((hg1.trans hg2).trans hg3).trans hg4)).congr (fun x => ?_) (by simp)
  have hfin : writeAt (C0.take ((i + 1) * 2) ++ C0.drop (i * 2)) (i * 2) ((vcs.drop vo).take 2) = C0.take (i * 2) ++ ((vcs.drop vo).take 2 ++ C0.drop (i * 2)) := by
    rw [writeAt_eq _ _ _ (by rw [hlv, hl1]; omega), hlv]
    have e1 : (C0.take ((i + 1) * 2) ++ C0.drop (i * 2)).take (i * 2) = C0.take (i * 2) := by
      rw [List.take_append, List.take_take, Nat.min_eq_left (by omega), List.length_take, hl0]
      rw [show i * 2 - min ((i + 1) * 2) (n * 2) = 0 by omega]
      simp
    have e2 : (C0.take ((i + 1) * 2) ++ C0.drop (i * 2)).drop (i * 2 + 2) = C0.drop (i * 2) := by
      have hlt : (C0.take ((i + 1) * 2)).length = i * 2 + 2 := by rw [List.length_take, hl0]; omega
      rw [← hlt, List.drop_left]
    rw [e1, e2]
  rw [hfin, Heap.get_set]
  simp only [Heap.get_push, Heap.next_set, Heap.get_set]
  split
  · rfl
  · rfl
end
theorem insP_some {args : List AV} {H H' : Heap} {v : AV} (h : insP args H = some (v, H')) : ∃ base n cap sl i vb vo vc vsl vcs, args = [.slice base n cap sl, .int .i64 i, .slice (some (vb, vo)) 1 vc vsl] ∧ H.get vb = some (.cells vcs 57 true false) ∧
    (vo + 2 ≤ vcs.length ∧ ((vcs.drop vo).take 2).all AV.one = true ∧ n ≤ cap ∧ n ≤ 1000 ∧ (sl = none ∨ sl = some 2) ∧ (base = none → n = 0 ∧ cap = 0)) ∧
    ((i = n ∧ appendA 57 2 24 base n cap sl 1 ((vcs.drop vo).take 2) H = some (v, H')) ∨ ∃ (b o k : Nat) (c : List AV), i = k ∧ k < n ∧ base = some (b, o) ∧ H.get b = some (.cells c 57 true false) ∧ (b ≠ vb ∧ o + n * 2 ≤ c.length ∧ o + cap * 2 ≤ c.length ∧ ((c.drop o).take (n * 2)).all AV.one = true) ∧
      v = .slice (some (H.next, 0)) (n + 1) (n + 1) (some 2) ∧ H' = (H.set b .dead).push (.cells (((c.drop o).take (n * 2)).take (k * 2) ++ ((vcs.drop vo).take 2 ++ ((c.drop o).take (n * 2)).drop (k * 2))) 57 true false)) := by
  unfold insP at h
  split at h
  · rename_i H base n cap sl i vb vo vc vsl
    split at h
    · rename_i vcs hv
      split at h
      · rename_i hc
        refine ⟨base, n, cap, sl, i, vb, vo, vc, vsl, vcs, rfl, hv, hc, ?_⟩
        split at h
        · rename_i hi
          exact .inl ⟨hi, h⟩
        · split at h
          · rename_i hi2
            split at h
            · rename_i b o
              split at h
              · rename_i c hb
                split at h
                · rename_i hk
                  injection h with h
                  simp only [Prod.mk.injEq] at h
                  obtain ⟨rfl, rfl⟩ := h
                  exact .inr ⟨b, o, i.toNat, c, by omega, by omega, rfl, hb, hk, rfl, rfl⟩
                · cases h
              · cases h
            · cases h
          · cases h
      · cases h
    · cases h
  · cases h
theorem insPrims_rl : PrimsRl insPrims := by
  intro f g hf args H v H' hg
  unfold insPrims at hf
  split at hf
  · injection hf with hf; subst hf
    obtain ⟨base, n, cap, sl, i, vb, vo, vc, vsl, vcs, _, hv, _, h⟩ := insP_some hg
    rcases h with ⟨_, ha⟩ | ⟨b, o, k, c, _, _, _, hb, _, _, rfl⟩
    · exact appendA_rl ha
    · exact (Rl.set hb _).trans (Rl.push _ _)
  · cases hf
theorem insPrims_ok : PrimsOk Try.prog insPrims := by
  refine ⟨?_, ?_, ?_⟩
  · intro f g hf args H v H' hg
    exact (insPrims_rl f g hf args H v H' hg).1
  · intro f g hf args H v H' hg ρ w us hs hwf hfree hargs
    unfold insPrims at hf
    split at hf
    · rename_i hff
      subst hff
      injection hf with hf
      subst hf
      obtain ⟨base, n, cap, sl, i, vb, vo, vc, vsl, vcs, rfl, hv, ⟨c1, c2, c3, c4, c5, c6⟩, h⟩ := insP_some hg
      unfold Does Delivers
      rw [run_callFunc_enter Try.func24 (by kernel_rfl) (by kernel_rfl)]
      rcases h with ⟨rfl, ha⟩ | ⟨b, o, k, c, rfl, hk, rfl, hb, ⟨d1, d2, d3, d4⟩, rfl, rfl⟩
      · have hC := insEnd (vc := vc) (vsl := vsl) hv c1 ha c3 c5 c6
        unfold Cl at hC
        have hC := hC noRl hwf
        unfold CallsA at hC
        obtain ⟨m, v2, H2, hcall, e1, e2⟩ := hC
        subst e1; subst e2
        exact acall_sound (noPrims_ok Try.prog) mixed05 plain05 Try.func24 rfl hcall hs hwf hfree hargs
      · obtain ⟨u0, u1, u2, rfl, h0, h1, h2⟩ := vrels3 hargs
        have hfr : ρ H.next = none := hfree _ (Nat.le_refl _) (by simp)
        cases h1
        obtain ⟨p, x, c', hp, rfl, g1, g2, g5, g6⟩ := h0
        by_cases hroom : n + 1 ≤ c'
        · have hx : x = ⟨p.blk, p.off + o, none⟩ := by
            rcases g5 with g | g
            · omega
            · exact g
          subst hx
          obtain ⟨p1, C, el, fr, hp1, hh, hc, hl1, hl2, hown⟩ := hs.obj b _ hb
          rw [hp] at hp1; injection hp1 with hp1; subst hp1
          have htot : o + c' * 2 ≤ p.tot := by
            rcases g6 with g | ⟨s, hs', g⟩
            · rw [g]; omega
            · rcases c5 with c5 | c5
              · rw [c5] at hs'; cases hs'
              · rw [c5] at hs'; injection hs' with hs'; subst hs'; exact g
          exact ins_room hs hwf hfr hb hv c1 d2 hk c4 d1 c2 d4 hp hroom htot h2
        · have hcn : c' = n := by omega
          subst hcn
          exact ins_new (vc := vc) (vsl := vsl) hs hwf hfr hb hv c1 d2 hk c4 c2 d4 ⟨_, _, rfl, ⟨p, x, c', hp, rfl, Nat.le_refl _, Nat.le_refl _, g5, .inl rfl⟩, _, _, rfl, rfl, _, _, rfl, h2, rfl⟩
    · cases hf
  · refine seqPrims_of fun f' g hf => ?_
    unfold insPrims at hf
    split at hf
    · rename_i hff
      subst hff
      exact ⟨_, Try.func24⟩
    · cases hf
end Go.Abs

/- Chapter 05: what is told by hand; a directory that there is none of. -/
namespace Go.Abs
open Go.Proofs
set_option maxRecDepth 100000
set_option linter.unusedVariables false
set_option linter.unusedSimpArgs false

def base05 : Prims := orPrims insPrims (orPrims (extPrims [(30, containsAV)]) (extPrims [(43, cmpAV)]))
def pr05 : Prims := orPrims (closedPrims [(9, .bool true)]) base05
theorem lives_ok (H : Heap) : Cl Try.prog pr05 9 [] H fun v H' => v = .bool true ∧ H' = H := Cl.prim (v := .bool true) (H' := H) rfl rfl ⟨rfl, rfl⟩
theorem len_nil (H : Heap) : Cl Try.prog pr05 11 [.ptr none] H fun v H' => v = .int .i64 0 ∧ H' = H := by
  refine Cl.enter Try.func11 rfl rfl Try.ntmps11 (by simp) ?_
  refine walk none0 ?_
  exact ⟨rfl, rfl⟩
theorem page_nil (f n : Int) (H : Heap) : Cl Try.prog pr05 14 [.ptr none, .int .i64 f, .int .i64 n] H fun v H' => v = .slice none 0 0 none ∧ H' = H := by
  by_cases h1 : f < 0
  · refine Cl.enter Try.func14 rfl rfl Try.ntmps14 (by simp) ?_
    refine walk h1 ?_
    exact ⟨rfl, rfl⟩
  · by_cases h2 : n < 0
    · refine Cl.enter Try.func14 rfl rfl Try.ntmps14 (by simp) ?_
      refine walk (both h1 h2) ?_
      exact ⟨rfl, rfl⟩
    · by_cases h3 : 0 < f
      · refine Cl.enter Try.func14 rfl rfl Try.ntmps14 (by simp) ?_
        refine walk (both h1 h2) ?_
        refine (len_nil H).mono fun v H1 _ ⟨ea, eb⟩ => ?_
        subst ea; subst eb
        refine walk h3 ?_
        exact ⟨rfl, rfl⟩
      · obtain rfl : f = 0 := by omega
        refine Cl.enter Try.func14 rfl rfl Try.ntmps14 (by simp) ?_
        refine walk (both h1 h2) ?_
        refine (len_nil H).mono fun v H1 _ ⟨ea, eb⟩ => ?_
        subst ea; subst eb
        refine walk h3 ?_
        refine Wq.loop (fun m e H' => H' = H1 ∧ e 0 = .ptr none ∧ e 7 = .slice none 0 0 none ∧ e 8 = .int .i64 0) 0 ⟨rfl, by simp, by simp, by simp⟩ ?_
        rintro m e H' ⟨rfl, g0, g7, g8⟩
        refine walk (both g0 (both g7 g8)) ?_
        refine (len_nil H').mono fun v H2 _ ⟨ea, eb⟩ => ?_
        subst ea; subst eb
        refine walk (both g0 (both g7 g8)) ?_
        exact ⟨rfl, rfl⟩
theorem dirsNil_main (k ino f n : Int) (s : List UInt8) (H : Heap) : Cl Try.prog pr05 6 [.agg [.int .i64 k, .str s, .int .i64 ino], .int .i64 f, .int .i64 n] H fun v _ => v = .bool true := by
  refine Cl.enter Try.func6 rfl rfl Try.ntmps6 (by simp) ?_
  refine walk none0 ?_
  refine Cl.enter Try.func16 rfl rfl Try.ntmps16 (by simp) ?_
  refine walk none0 ?_
  refine Cl.enter Try.func20 rfl rfl Try.ntmps20 (by simp) ?_
  refine walk none0 ?_
  refine Cl.enter Try.func21 rfl rfl Try.ntmps21 (by simp) ?_
  refine walk none0 ?_
  refine (len_nil _).mono fun v H1 _ ⟨ea, eb⟩ => ?_
  subst ea; subst eb
  refine walk none0 ?_
  refine Cl.enter Try.func10 rfl rfl Try.ntmps10 (by simp) ?_
  refine walk none0 ?_
  refine Cl.enter Try.func18 rfl rfl Try.ntmps18 (by simp) ?_
  refine walk none0 ?_
  refine (len_nil _).mono fun v H1 _ ⟨ea, eb⟩ => ?_
  subst ea; subst eb
  refine walk none0 ?_
  refine (page_nil 0 0 _).mono fun v H1 _ ⟨ea, eb⟩ => ?_
  subst ea; subst eb
  refine walk none0 ?_
  refine (page_nil f n _).mono fun v H1 _ ⟨ea, eb⟩ => ?_
  subst ea; subst eb
  refine walk none0 ?_
  refine (lives_ok _).mono fun v H1 _ ⟨ea, eb⟩ => ?_
  subst ea; subst eb
  refine walk none0 ?_
  rfl
end Go.Abs

/- Chapter 05: acts that come in. -/
namespace Go.Abs
open Go.Proofs
set_option maxRecDepth 100000
set_option linter.unusedVariables false
set_option linter.unusedSimpArgs false

structure ActD where
  k : Int
  s : List UInt8
  ino : Int
def encD (x : ActD) : List AV := [.int .i64 x.k, .str x.s, .int .i64 x.ino]
theorem act_pic {H : Heap} {n : Nat} {cs : List AV} (h : Pic Try.prog H (n + 2) 36 cs) : ∃ x : ActD, cs = encD x ∧ x.s.length ≤ maxLen := by
  unfold Pic at h
  simp only [Try.underlying36] at h
  obtain ⟨hl, hf⟩ := h
  have c3 : Try.prog.cellsOf 3 = 1 := by kernel_rfl
  have c9 : Try.prog.cellsOf 9 = 1 := by kernel_rfl
  have c36 : Try.prog.cellsOf 36 = 3 := by kernel_rfl
  rw [c36] at hl
  match cs, hl with
  | [a, b, c], _ =>
    simp [c3, c9] at hf
    obtain ⟨h0, h1, h2⟩ := hf
    obtain ⟨k, e0, _⟩ := pic_int (k := .i64) Try.underlying3 h0
    obtain ⟨s, e1, hs⟩ := pic_str Try.underlying9 h1
    obtain ⟨m, e2, _⟩ := pic_int (k := .i64) Try.underlying3 h2
    simp at e0 e1 e2
    subst e0; subst e1; subst e2
    exact ⟨⟨k, s, m⟩, rfl, hs⟩
theorem act_ofD {H : Heap} {n : Nat} {a : AV} (h : PicV Try.prog H (n + 2) 36 a) : ∃ x : ActD, a = .agg [.int .i64 x.k, .str x.s, .int .i64 x.ino] ∧ x.s.length ≤ maxLen := by
  unfold PicV at h
  simp only [Try.underlying36] at h
  obtain ⟨cs, rfl, h⟩ := h
  obtain ⟨x, rfl, hs⟩ := act_pic h
  exact ⟨x, rfl, hs⟩
def ActsD (H : Heap) (v : AV) (l : List ActD) : Prop := ∃ c, Sl H 3 v l.length c ∧ (∀ z, slBlock v = some z → z < H.next) ∧ l.length ≤ maxLen ∧ ∀ i x, l[i]? = some x → (c.drop (i * 3)).take 3 = encD x ∧ x.s.length ≤ maxLen
theorem ActsD.upd {H H' : Heap} {v : AV} {l : List ActD} {fp : Nat → Prop} (h : ActsD H v l) (u : Upd fp H H') (hd : ∀ z, z < H.next → ¬ fp z) : ActsD H' v l := by
  obtain ⟨c, h1, h2, h3⟩ := h
  exact ⟨c, h1.upd u fun z hz _ => hd z (h2 z hz), fun z hz => by have := h2 z hz; have := u.next; omega, h3⟩
theorem ActsD.form {H : Heap} {v : AV} {l : List ActD} (h : ActsD H v l) : ∃ a cap ex, v = .slice a l.length cap ex ∧ l.length ≤ maxLen := by
  obtain ⟨c, h1, h2, h3, h4⟩ := h
  obtain ⟨a, cap, ex, rfl, _⟩ := h1.form
  exact ⟨a, cap, ex, rfl, h3⟩
theorem ActsD.at {H : Heap} {a : Option (Nat × Nat)} {cap : Nat} {ex : Option Nat} {l : List ActD} {i : Nat} {x : ActD} (h : ActsD H (.slice a l.length cap ex) l) (hx : l[i]? = some x) :
    ∃ b o c t w m, a = some (b, o) ∧ b < H.next ∧ H.get b = some (.cells c t w m) ∧ o + i * 3 + 3 ≤ c.length ∧ (c.drop (o + i * 3)).take 3 = [.int .i64 x.k, .str x.s, .int .i64 x.ino] ∧ x.s.length ≤ maxLen := by
  obtain ⟨c, h1, h2, h3, h4⟩ := h
  have hi := (List.getElem?_eq_some_iff.1 hx).1
  obtain ⟨b, o, c', t, w, m, rfl, g1, g2, g3, g4⟩ := h1.at (by omega)
  obtain ⟨e, q⟩ := h4 i x hx
  refine ⟨b, o, c', t, w, m, rfl, g1, g2, by omega, ?_, q⟩
  rw [sub_take g4 (by omega)]
  exact e
theorem actsD_of {H : Heap} {v : AV} (h : Pic Try.prog H 3 31 [v]) : ∃ l, ActsD H v l := by
  obtain ⟨len, c, h1, h2, h3, h4⟩ := pic_slice (s := 3) Try.underlying31 (by kernel_rfl) h
  obtain ⟨l, hl, hp⟩ := list_of (p := fun i (x : ActD) => (c.drop (i * 3)).take 3 = encD x ∧ x.s.length ≤ maxLen) (n := len) fun i hi => act_pic (n := 0) (h4 i hi)
  exact ⟨l, c, by rw [hl]; exact h1, h3, by omega, hp⟩
end Go.Abs

/- The seat's own facts for its rows. -/
namespace Go.Proofs.Ytflbhhfdogpklaa
open Go.ChangeShapes Go.WideShapes Go.ChangeAt Go.RowKit Go.Abs
set_option linter.unusedVariables false
set_option maxRecDepth 100000

theorem own : ownKnob Try.prog.godebug = none := by kernel_rfl
theorem laidOut : laidOutB Try.prog = true := by kernel_rfl
theorem mixed : Try.prog.follows .mixedOrders = true := by kernel_rfl
theorem plainN : plainNames Try.prog = true := by kernel_rfl
theorem baseOk : PrimsOk Try.prog base05 := orPrims_ok insPrims_ok (orPrims_ok (bodyPrims_ok (by intro p hp; simp at hp; subst hp; exact Try.says30)) (extPrims_ok (by intro p hp; simp at hp; subst hp; exact Try.says43)))
theorem baseRl : PrimsRl base05 := orPrims_rl insPrims_rl (orPrims_rl (extPrims_rl _) (extPrims_rl _))
theorem run9 : ((acall Try.prog base05 40 9 [] (Heap.start Try.prog.globals.size)).map fun r => sameAV r.1 (.bool true)) = some true := by kernel_rfl
theorem runs9 : ∃ n H', acall Try.prog base05 n 9 [] (Heap.start Try.prog.globals.size) = some (.bool true, H') := runs_on run9
theorem primsOk : PrimsOk Try.prog pr05 := by
  refine orPrims_ok (closedPrims_on mixed plainN baseOk fun p hp => ?_) baseOk
  simp at hp
  subst hp
  exact ⟨rfl, runs9⟩
theorem primsRl : PrimsRl pr05 := orPrims_rl (closedPrims_rl _) baseRl
end Go.Proofs.Ytflbhhfdogpklaa

/- DirsNil: the row. -/
namespace Go.Proofs.Ytflbhhfdogpklaa
open Go.ChangeShapes Go.WideShapes Go.ChangeAt Go.RowKit Go.Abs
set_option linter.unusedVariables false
set_option maxRecDepth 100000

theorem dirsNilMain (H : Heap) (xs : List AV) (hG : Try.prog.globals.size ≤ H.next) (hw : Wf H) (h : PicAll Try.prog H 3 [36, 3, 3] xs) : CallsA Try.prog pr05 6 xs H fun v _ => v = .bool true := by
  obtain ⟨a0, r0, rfl, h0, a1, r1, rfl, h1, a2, r2, rfl, h2, hend⟩ := h
  obtain rfl : r2 = [] := hend
  refine Cl.callsA primsRl hw ?_
  obtain ⟨x, rfl, _⟩ := act_ofD (n := 1) h0
  obtain ⟨f, rfl, _⟩ := picV_i64 Try.underlying3 h1
  obtain ⟨n, rfl, _⟩ := picV_i64 Try.underlying3 h2
  exact dirsNil_main x.k x.ino f n x.s H

theorem dirsNilLifted (os : Os) (started : os.Started) (H : Type) (enc : TypeId × Value → H) :
    ReturnsInHanded {} Try.checked os 6 .any (Rows.dirsNilSpec.pre6 enc Try.prog Try.f6 Rows.dirsNilRow.domain false) (Rows.dirsNilSpec.post enc Try.prog Try.f6 false true false false) := by
  refine returnsInHanded_of_change (C := Try.checked) own started (by kernel_rfl) Try.func6
    (ChangeSpec.witness6 (enc := enc) (C := Try.checked) false ⟨#[], #[.agg #[.int .i64 0, .string ⟨#[]⟩, .int .i64 0], .int .i64 0, .int .i64 0], []⟩ 8 (by kernel_rfl) (by kernel_rfl) (by kernel_rfl) (by kernel_rfl)) ?_
  intro W base args ds gs before hval hW hcnd _
  have ep : Try.f6.params.toList = [36, 3, 3] := by kernel_rfl
  refine law_post laidOut rfl (fun ds h => ?_) (tb := 4) (by kernel_rfl) Try.underlying4 ?_ hW (fun p hA => ?_)
  · rw [ep] at h
    match ds, h with
    | [a0, a1, a2], _ => rfl
  · rw [ep]
    intro t ht
    simp at ht
    rcases ht with rfl | rfl <;> exact ⟨by kernel_rfl, of_decide_eq_true (by kernel_rfl)⟩
  · refine law_calls primsOk mixed plainN Try.func6 rfl (n := 3) (base := base) (ts := Try.f6.params.toList) ?_ ?_ ?_ hA
    · rw [ep]
      intro t ht
      simp at ht
      rcases ht with rfl | rfl <;> kernel_rfl
    · rw [ep]
      exact dirsNilMain
    · intro j t v h1 h2
      exact hval j t v (by simpa using h1) (by simpa using h2)

theorem dirsNil : Rows.DirsNilSaid :=
  OpenClaim.holds_of_wide 6 Try.f6 rfl rfl rfl rfl rfl rfl rfl ⟨rfl, rfl, rfl, rfl, rfl⟩ rfl rfl rfl rfl rfl (by kernel_rfl) Try.func6 (by kernel_rfl)
    (of_decide_eq_true (by kernel_rfl)) (by unfold Func.isWrapper; first | (rw [if_pos (by decide +kernel)]; kernel_rfl) | (rw [if_neg (by decide +kernel)]; exact ⟨rfl, rfl⟩))
    (fun os started H enc _ => dirsNilLifted os started H enc)
-- #print axioms dirsNil
end Go.Proofs.Ytflbhhfdogpklaa
