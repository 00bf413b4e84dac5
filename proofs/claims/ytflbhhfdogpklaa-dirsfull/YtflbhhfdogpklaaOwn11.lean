/- Texts on this program, joined. -/
import Derived.Test.YtflbhhfdogpklaaOwn09
import Derived.Test.YtflbhhfdogpklaaKit10
import Derived.Test.YtflbhhfdogpklaaKit04
import Derived.Test.YtflbhhfdogpklaaKit06
import Derived.Test.YtflbhhfdogpklaaKit03

/- Chapter 05: slices.Insert on the abstract machine: at the end, and where there is no room. -/
namespace Go.Abs
open Go.Proofs
set_option maxRecDepth 100000
set_option linter.unusedVariables false
set_option linter.unusedSimpArgs false

theorem app52 {H H' : Heap} {base : Option (Nat × Nat)} {n cap vb vo vc : Nat} {sl vsl : Option Nat} {v : AV} {vcs : List AV} {mk : Bool} (hv : H.get vb = some (.cells vcs 57 true mk)) (hvl : vo + 2 ≤ vcs.length)
    (ha : appendA 57 2 24 base n cap sl 1 ((vcs.drop vo).take 2) H = some (v, H')) {N : Nat} {e : Nat → AV} {xs : Array Operand} (hx : mapOpt (ev Try.prog (tab N e)) xs.toList = some [.slice base n cap sl, .slice (some (vb, vo)) 1 vc vsl]) :
    opR Try.prog N e (.call { callee := .builtin .append, args := xs, argTypes := #[52, 52] }) H = some (v, H') := by
  have hs : srcCells H 2 1 (.slice (some (vb, vo)) 1 vc vsl) = some ((vcs.drop vo).take 2) := by
    simp only [srcCells, cellsAt, hv]
    rw [if_neg (by decide), if_pos (by decide), if_pos (by omega)]
  rw [opR_builtin, hx, append_eq (t := 52) (elem := 57) (s := 2) (bytes := 24) (z := .agg [.str [], .int .i64 0]) (t1 := 52) (d1 := .slice 57) rfl Try.underlying52 (by kernel_rfl) (by kernel_rfl) (by kernel_rfl) rfl (by kernel_rfl) rfl Try.underlying52 rfl hs (by simp; omega)]
  exact ha
theorem insEnd {H H' : Heap} {base : Option (Nat × Nat)} {n cap vb vo vc : Nat} {sl vsl : Option Nat} {v : AV} {vcs : List AV} {mk : Bool} (hv : H.get vb = some (.cells vcs 57 true mk)) (hvl : vo + 2 ≤ vcs.length)
    (ha : appendA 57 2 24 base n cap sl 1 ((vcs.drop vo).take 2) H = some (v, H')) (hn : n ≤ cap) (hsl : sl = none ∨ sl = some 2) (hnil : base = none → n = 0 ∧ cap = 0) : Cl Try.prog noPrims 24 [.slice base n cap sl, .int .i64 n, .slice (some (vb, vo)) 1 vc vsl] H fun r H2 => r = v ∧ H2 = H' := by
  cases base with
  | none =>
    obtain ⟨rfl, rfl⟩ := hnil rfl
    refine Cl.enter Try.func24 rfl rfl Try.ntmps24 (by simp) ?_
    refine walk hn ?_
    refine Oq.o1 (app52 (vc := vc) (vsl := vsl) hv hvl ha (by simp)) ?_
    refine walk none0 ?_
    exact ⟨rfl, rfl⟩
  | some q =>
    obtain ⟨b, o⟩ := q
    refine Cl.enter Try.func24 rfl rfl Try.ntmps24 (by simp) ?_
    refine walk (both hn hsl) ?_
    refine Oq.o1 (app52 (vc := vc) (vsl := vsl) hv hvl ha (by simp)) ?_
    refine walk none0 ?_
    exact ⟨rfl, rfl⟩
theorem appN52 {H : Heap} {b o i n : Nat} {c : List AV} {m : Bool} (hb : H.get b = some (.cells c 57 true m)) (hi : i ≤ n) (hcl : o + n * 2 ≤ c.length) (hn : n ≤ 1000) {N : Nat} {e : Nat → AV} {xs : Array Operand} (hx : mapOpt (ev Try.prog (tab N e)) xs.toList = some [.slice (some (b, o)) i n none, .int .i64 ((n : Int) + 1 - i)]) :
    opR Try.prog N e (.call { callee := .builtin .append, args := xs, argTypes := #[52, 3] }) H = some (.slice (some (H.next, 0)) (n + 1) (n + 1) (some 2), H.push (.cells ((c.drop o).take (i * 2) ++ zeros [.str [], .int .i64 0] (n + 1 - i)) 57 true false)) := by
  have g1 : tsz Try.prog 57 = some 2 := by kernel_rfl
  have g2 : tbytes Try.prog 57 = some 24 := by kernel_rfl
  have g3 : tzero Try.prog 57 = some (.agg [.str [], .int .i64 0]) := by kernel_rfl
  have hc : isCount Try.prog (some 3) = true := by kernel_rfl
  have hts : (#[52, 3] : Array TypeId)[0]? = some 52 := rfl
  have hts1 : (#[52, 3] : Array TypeId)[1]? = some 3 := rfl
  have hl : ((n : Int) + 1 - i).toNat = n + 1 - i := by omega
  have hsrc : srcCells H 2 i (.slice (some (b, o)) i n none) = some ((c.drop o).take (i * 2)) := by
    simp only [srcCells, cellsAt, hb]
    by_cases h0 : i * 2 = 0
    · rw [if_pos h0, h0]; rfl
    · rw [if_neg h0, if_pos (Nat.le_refl _), if_pos (by omega)]
  rw [opR_builtin, hx, builtinR_eq]
  simp only [builtinSem, appendSem, hts, hts1, Try.underlying52, g1, g2, g3, hc, if_true, AV.cells, List.length_cons, List.length_nil, ne_eq, not_true, if_false, Nat.reduceAdd]
  rw [if_pos ⟨by omega, by omega, by omega⟩]
  simp only [Sm.run, appendA, hl]
  rw [if_neg (by omega), if_pos (by simp only [growFits, Bool.and_eq_true, Bool.or_eq_true, decide_eq_true_eq]; exact ⟨by omega, .inl ⟨by omega, by omega⟩⟩)]
  simp only [hsrc]
  rw [show i + (n + 1 - i) = n + 1 by omega]
theorem copy52 {H : Heap} {b o dl c b2 o2 ml c2 k : Nat} {ex ex2 : Option Nat} {cd cs : List AV} {u u2 : TypeId} {mk w2 m2 : Bool} (hk : min ml dl = k) (h0 : 0 < k) (hb : H.get b = some (.cells cd u true mk)) (hb2 : H.get b2 = some (.cells cs u2 w2 m2)) (h1 : o + k * 2 ≤ cd.length) (h2 : o2 + k * 2 ≤ cs.length) (hone : ((cs.drop o2).take (k * 2)).all AV.one = true)
    {N : Nat} {e : Nat → AV} {xs : Array Operand} (hx : mapOpt (ev Try.prog (tab N e)) xs.toList = some [.slice (some (b, o)) dl c ex, .slice (some (b2, o2)) ml c2 ex2]) :
    opR Try.prog N e (.call { callee := .builtin .copy, args := xs, argTypes := #[52, 52] }) H = some (.int .i64 k, H.set b (.cells (cd.take o ++ ((cs.drop o2).take (k * 2) ++ cd.drop (o + k * 2))) u true mk)) := by
  have g1 : elemS Try.prog 52 = some 2 := by kernel_rfl
  have hk' : Nat.min ml dl = k := hk
  have hl : ((cs.drop o2).take (k * 2)).length = k * 2 := by simp; omega
  have hts : (#[52, 52] : Array TypeId)[0]? = some 52 := rfl
  rw [opR_builtin, hx, copyR_eq]
  simp only [hts, g1, srcLen, hk']
  have hsrc : srcCells H 2 k (.slice (some (b2, o2)) ml c2 ex2) = some ((cs.drop o2).take (k * 2)) := by
    simp only [srcCells, cellsAt, hb2]
    rw [if_neg (by omega), if_pos (by have := Nat.min_le_left ml dl; omega), if_pos h2]
  simp only [hsrc, hl, ne_eq, not_true, if_false]
  rw [writeCells_eq hb (by rw [hl]; exact h1) (by rw [hl]; omega) hone, hl]
theorem zeros52 : ∀ k, (zeros [.str [], .int .i64 0] k).length = k * 2
  | 0 => rfl
  | k + 1 => by simp only [zeros, List.length_append, List.length_cons, List.length_nil]; rw [zeros52 k]; omega
theorem grownL {c new Z : List AV} {o n i : Nat} (hi : i < n) (hcl : o + n * 2 ≤ c.length) (hnew : new.length = 2) (hz : Z.length = (n + 1 - i) * 2) :
    (((((c.drop o).take (i * 2)) ++ Z).take (i * 2) ++ (new ++ (((c.drop o).take (i * 2)) ++ Z).drop (i * 2 + 1 * 2))).take ((i + 1) * 2) ++ ((c.drop (o + i * 2)).take ((n - i) * 2) ++ ((((c.drop o).take (i * 2)) ++ Z).take (i * 2) ++ (new ++ (((c.drop o).take (i * 2)) ++ Z).drop (i * 2 + 1 * 2))).drop ((i + 1) * 2 + (n - i) * 2))) =
      ((c.drop o).take (n * 2)).take (i * 2) ++ (new ++ ((c.drop o).take (n * 2)).drop (i * 2)) := by
  have hA : ((c.drop o).take (i * 2)).length = i * 2 := by simp; omega
  have e1 : ((c.drop o).take (n * 2)).take (i * 2) = (c.drop o).take (i * 2) := by rw [List.take_take, Nat.min_eq_left (by omega)]
  have e2 : ((c.drop o).take (n * 2)).drop (i * 2) = (c.drop (o + i * 2)).take ((n - i) * 2) := by
    rw [List.drop_take, List.drop_drop, show n * 2 - i * 2 = (n - i) * 2 by omega]
  rw [e1, e2]
  generalize (c.drop o).take (i * 2) = A at *
  generalize (c.drop (o + i * 2)).take ((n - i) * 2) = M at *
  have e3 : (A ++ Z).take (i * 2) = A := by rw [← hA, List.take_left]
  rw [e3]
  have e4 : ((A ++ Z).drop (i * 2 + 1 * 2)).length = (n - i) * 2 := by rw [List.length_drop, List.length_append, hA, hz]; omega
  generalize (A ++ Z).drop (i * 2 + 1 * 2) = D at *
  have e5 : (A ++ (new ++ D)).take ((i + 1) * 2) = A ++ new := by
    rw [← List.append_assoc, show (i + 1) * 2 = (A ++ new).length by rw [List.length_append, hA, hnew]; omega, List.take_left]
  have e6 : (A ++ (new ++ D)).drop ((i + 1) * 2 + (n - i) * 2) = [] := List.drop_eq_nil_of_le (by rw [List.length_append, List.length_append, hA, hnew, e4]; omega)
  rw [e5, e6, List.append_nil, List.append_assoc]
theorem insGrow {H : Heap} {b o n i vb vo vc : Nat} {vsl : Option Nat} {c vcs : List AV} {m mk : Bool} (hb : H.get b = some (.cells c 57 true m)) (hv : H.get vb = some (.cells vcs 57 true mk)) (hvl : vo + 2 ≤ vcs.length) (hcl : o + n * 2 ≤ c.length)
    (hi : i < n) (hn : n ≤ 1000) (hwf : b < H.next ∧ vb < H.next) (hone1 : ((vcs.drop vo).take (1 * 2)).all AV.one = true) (hone2 : ((c.drop (o + i * 2)).take ((n - i) * 2)).all AV.one = true) :
    Cl Try.prog noPrims 24 [.slice (some (b, o)) n n none, .int .i64 i, .slice (some (vb, vo)) 1 vc vsl] H fun r H2 => r = .slice (some (H.next, 0)) (n + 1) (n + 1) (some 2) ∧ (∀ x, x ≠ H.next → H2.get x = H.get x) ∧ H2.next = H.next + 1 ∧
      H2.get H.next = some (.cells (((c.drop o).take (n * 2)).take (i * 2) ++ ((vcs.drop vo).take 2 ++ ((c.drop o).take (n * 2)).drop (i * 2))) 57 true false) := by
  have h1 : ¬ ((i : Int) = n) := by omega
  have h2 : (i : Int) ≤ n := by omega
  have h3 : ¬ i = n := by omega
  refine Cl.enter Try.func24 rfl rfl Try.ntmps24 (by simp) ?_
  refine walk (both h1 (both h2 (both h3 hi))) ?_
  have hnew : ((vcs.drop vo).take 2).length = 2 := by simp; omega
  have hA : ((c.drop o).take (i * 2)).length = i * 2 := by simp; omega
  have hz := zeros52 (n + 1 - i)
  have happ := fun (N : Nat) (e : Nat → AV) (xs : Array Operand) => appN52 (N := N) (e := e) (xs := xs) (i := i) (n := n) hb (by omega) hcl hn
  have hgl := fun (Z : List AV) => grownL (c := c) (new := (vcs.drop vo).take 2) (o := o) (Z := Z) hi hcl hnew
  generalize zeros [.str [], .int .i64 0] (n + 1 - i) = Z at *
  have hgl := hgl Z hz
  refine Oq.o1 (happ _ _ _ (by simp)) ?_
  have hv1 : (H.push (.cells ((c.drop o).take (i * 2) ++ Z) 57 true false)).get vb = some (.cells vcs 57 true mk) := by rw [Heap.get_push, if_neg (by omega)]; exact hv
  have hb1 : (H.push (.cells ((c.drop o).take (i * 2) ++ Z) 57 true false)).get b = some (.cells c 57 true m) := by rw [Heap.get_push, if_neg (by omega)]; exact hb
  have hn1 : (H.push (.cells ((c.drop o).take (i * 2) ++ Z) 57 true false)).get H.next = some (.cells ((c.drop o).take (i * 2) ++ Z) 57 true false) := by simp
  have hne : b ≠ H.next := by omega
  refine walk (both h2 hi) ?_
  refine Oq.o1 (copy52 (k := 1) (b := H.next) (o := i * 2) (b2 := vb) (o2 := vo) (cd := (c.drop o).take (i * 2) ++ Z) (cs := vcs) (dl := n + 1 - i) (c := n + 1 - i) (ex := some 2) (ml := 1) (c2 := vc) (ex2 := vsl) (by omega) (by omega) hn1 hv1 (by rw [List.length_append, hA, hz]; omega) (by omega) hone1 (by simp)) ?_
  have hl1 : (((c.drop o).take (i * 2) ++ Z).take (i * 2) ++ ((vcs.drop vo).take (1 * 2) ++ ((c.drop o).take (i * 2) ++ Z).drop (i * 2 + 1 * 2))).length = (n + 1) * 2 := by
    simp only [List.length_append, List.length_take, List.length_drop, hz]
    omega
  generalize hC1 : ((c.drop o).take (i * 2) ++ Z).take (i * 2) ++ ((vcs.drop vo).take (1 * 2) ++ ((c.drop o).take (i * 2) ++ Z).drop (i * 2 + 1 * 2)) = C1 at *
  have g2 : ((H.push (.cells ((c.drop o).take (i * 2) ++ Z) 57 true false)).set H.next (.cells C1 57 true false)).get H.next = some (.cells C1 57 true false) := Heap.get_set_same _ _ _
  have g2b : ((H.push (.cells ((c.drop o).take (i * 2) ++ Z) 57 true false)).set H.next (.cells C1 57 true false)).get b = some (.cells c 57 true m) := by rw [Heap.get_set_ne _ _ hne]; exact hb1
  have g2x : ∀ x, x ≠ H.next → ((H.push (.cells ((c.drop o).take (i * 2) ++ Z) 57 true false)).set H.next (.cells C1 57 true false)).get x = H.get x := fun x hx => by rw [Heap.get_set_ne _ _ hx, Heap.get_push, if_neg hx]
  have n2 : ((H.push (.cells ((c.drop o).take (i * 2) ++ Z) 57 true false)).set H.next (.cells C1 57 true false)).next = H.next + 1 := by simp
  generalize (H.push (.cells ((c.drop o).take (i * 2) ++ Z) 57 true false)).set H.next (.cells C1 57 true false) = H2 at *
  refine walk none0 ?_
  refine Wq.regionD [0, 1, 2, 3, 4, 5, 6, 7, 8] (by kernel_rfl) ?_
  refine walk (both h2 hi) ?_
  refine Oq.o1 (copy52 (k := n - i) (b := H.next) (o := (i + 1) * 2) (b2 := b) (o2 := o + i * 2) (cd := C1) (cs := c) (dl := ((n : Int) + 1 - ((i : Int) + 1)).toNat) (c := ((n : Int) + 1 - ((i : Int) + 1)).toNat) (ex := some 2) (ml := n - i) (c2 := n - i) (ex2 := none) (by omega) (by omega) g2 g2b (by rw [hl1]; omega) (by omega) hone2 (by simp)) ?_
  refine walk none0 ?_
  refine ⟨rfl, fun x hx => ?_, by simp [n2], ?_⟩
  · rw [Heap.get_set_ne _ _ hx]
    exact g2x x hx
  · rw [Heap.get_set_same, ← hgl]
end Go.Abs

/- Chapter 05: slices.Insert told by hand. -/
namespace Go.Abs
open Go.Proofs Go.Lib
set_option maxRecDepth 100000
set_option linter.unusedVariables false
set_option linter.unusedSimpArgs false

/-- What Insert of one entry makes. -/
def insP : List AV → Heap → Option (AV × Heap)
  | [.slice base n cap sl, .int .i64 i, .slice (some (vb, vo)) 1 vc vsl], H =>
    match H.get vb with
    | some (.cells vcs 57 true false) =>
      if vo + 2 ≤ vcs.length ∧ ((vcs.drop vo).take 2).all AV.one = true ∧ n ≤ cap ∧ n ≤ 1000 ∧ (sl = none ∨ sl = some 2) ∧ (base = none → n = 0 ∧ cap = 0) then
        if i = n then appendA 57 2 24 base n cap sl 1 ((vcs.drop vo).take 2) H
        else if 0 ≤ i ∧ i < n then
          match base with
          | some (b, o) => match H.get b with
            | some (.cells c 57 true false) =>
              if b ≠ vb ∧ o + n * 2 ≤ c.length ∧ o + cap * 2 ≤ c.length ∧ ((c.drop o).take (n * 2)).all AV.one = true then
                some (.slice (some (H.next, 0)) (n + 1) (n + 1) (some 2), (H.set b .dead).push (.cells (((c.drop o).take (n * 2)).take (i.toNat * 2) ++ ((vcs.drop vo).take 2 ++ ((c.drop o).take (n * 2)).drop (i.toNat * 2))) 57 true false))
              else none
            | _ => none
          | none => none
        else none
      else none
    | _ => none
  | _, _ => none
def insPrims : Prims := fun f => if f = 24 then some insP else none

theorem vrels3 {ρ : Map} {a b c : AV} {us : Array Value} (h : VRels ρ [a, b, c] us.toList) : ∃ u v x, us = #[u, v, x] ∧ VRel ρ a u ∧ VRel ρ b v ∧ VRel ρ c x := by
  obtain ⟨u, l1, e1, h1, v, l2, e2, h2, x, l3, e3, h3, e4⟩ := h
  cases e4
  exact ⟨u, v, x, by rw [← Array.toArray_toList (xs := us), e1, e2, e3], h1, h2, h3⟩
theorem mixed05 : Try.prog.follows .mixedOrders = true := by kernel_rfl
theorem plain05 : plainNames Try.prog = true := by kernel_rfl
theorem noRl : PrimsRl noPrims := by intro f g h; simp [noPrims] at h

section
variable {ρ : Map} {H : Heap} {w : World}
/-- Where there is no room: a new array. -/
theorem ins_new {b o n i vb vo vc : Nat} {vsl : Option Nat} {c vcs : List AV} (hs : Sim Try.prog.globals.size ρ H w) (hwf : Wf H) (hfree : ρ H.next = none) (hb : H.get b = some (.cells c 57 true false)) (hv : H.get vb = some (.cells vcs 57 true false)) (hvl : vo + 2 ≤ vcs.length) (hcl : o + n * 2 ≤ c.length)
    (hi : i < n) (hn : n ≤ 1000) (hone1 : ((vcs.drop vo).take 2).all AV.one = true) (hone2 : ((c.drop o).take (n * 2)).all AV.one = true) {us : Array Value} (hargs : VRels ρ [.slice (some (b, o)) n n none, .int .i64 i, .slice (some (vb, vo)) 1 vc vsl] us.toList) :
    Calls Try.prog 24 us w fun e w' => ∃ u, e = .returned u ∧ ∃ ρ', Good Try.prog.globals.size ρ H w ρ' ((H.set b .dead).push (.cells (((c.drop o).take (n * 2)).take (i * 2) ++ ((vcs.drop vo).take 2 ++ ((c.drop o).take (n * 2)).drop (i * 2))) 57 true false)) w' ∧ VRel ρ' (.slice (some (H.next, 0)) (n + 1) (n + 1) (some 2)) u := by
  have hbl := hwf.lt hb
  have hvbl := hwf.lt hv
  have h2 : ((c.drop (o + i * 2)).take ((n - i) * 2)).all AV.one = true := by
    rw [List.all_eq_true] at hone2 ⊢
    intro x hx
    refine hone2 x ?_
    have e : (c.drop (o + i * 2)).take ((n - i) * 2) = ((c.drop o).take (n * 2)).drop (i * 2) := by rw [List.drop_take, List.drop_drop, show n * 2 - i * 2 = (n - i) * 2 by omega]
    rw [e] at hx
    exact List.mem_of_mem_drop hx
  have hC := insGrow (vc := vc) (vsl := vsl) hb hv hvl hcl hi hn ⟨hbl, hvbl⟩ (by simpa using hone1) h2
  unfold Cl at hC
  have hC := hC noRl hwf
  unfold CallsA at hC
  obtain ⟨k, v, H2, hcall, e1, e2, e3, e4⟩ := hC
  subst e1
  refine (acall_sound (noPrims_ok Try.prog) mixed05 plain05 Try.func24 rfl hcall hs hwf (fun x h3 h4 => (show x = H.next by omega) ▸ hfree) hargs).mono fun e w' ⟨u, hu, ρ', hg, hr⟩ => ⟨u, hu, ρ', ?_, hr⟩
  have hb2 : H2.get b = some (.cells c 57 true false) := (e2 b (by omega)).trans hb
  refine (hg.trans (Good.kill hg.sim hb2)).congr (fun x => ?_) (by simp; omega)
  rw [Heap.get_push, Heap.get_set, Heap.next_set]
  by_cases hx : x = H.next
  · rw [if_pos hx, Heap.get_set_ne _ _ (show x ≠ b by omega), hx, e4]
  · rw [if_neg hx, Heap.get_set]
    split
    · rfl
    · exact (e2 x hx).symm
theorem overlaps_no {b o vb vo lb cb vc : Nat} {c vcs : List AV} {p q : Place} (hs : Sim Try.prog.globals.size ρ H w) (hb : H.get b = some (.cells c 57 true false)) (hv : H.get vb = some (.cells vcs 57 true false)) (hne : b ≠ vb) (hp : ρ b = some p) (hq : ρ vb = some q) (h0 : 0 < c.length) :
    (callFunc 34 #[.slice (some ⟨q.blk, q.off + vo, none⟩) 1 vc, .slice (some ⟨p.blk, o, none⟩) lb cb]).run Try.prog w = .ok (.value (.bool false)) w := by
  have hblk : q.blk ≠ p.blk := fun e => hs.apart b vb _ _ p q hb hv hne rfl rfl hp hq e.symm
  obtain ⟨p1, C, el, fr, hp1, hh, hc, hl1, hl2, hown⟩ := hs.obj b _ hb
  rw [hp] at hp1; injection hp1 with hp1; subst hp1
  obtain ⟨q1, D, el2, fr2, hq1, hh2, hc2, hl3, hl4, hown2⟩ := hs.obj vb _ hv
  rw [hq] at hq1; injection hq1 with hq1; subst hq1
  have hfr2 : fr2 = (0, 0) := by
    rcases (hown2 rfl).2 with h | ⟨h, _⟩
    · exact h
    · cases h
  subst hfr2
  rw [run_callFunc_extern Try.func34 (by kernel_rfl) (by kernel_rfl) (by kernel_rfl) (e := Extern.SlicesOverlaps.overlaps #[52, 52] #[4]) (by kernel_rfl),
    Lib.run_overlaps_apart w 52 4 57 Try.underlying52 2 Try.sizeOf57 ⟨q.blk, q.off + vo, none⟩ ⟨p.blk, o, none⟩ 1 vc lb cb hblk el2 el D.size C.size (by simp [World.shape?, hh2]) (by simp [World.shape?, hh]) (by omega) (by simp [World.frozen?, hh2]) (by simp [World.frozen?, hh2])]
  rfl
/-- Where there is room: in place. -/
theorem ins_room {b o n i vb vo vc c' : Nat} {vsl : Option Nat} {c vcs : List AV} {p : Place} {u2 : Value} (hs : Sim Try.prog.globals.size ρ H w) (hwf : Wf H) (hfree : ρ H.next = none) (hb : H.get b = some (.cells c 57 true false)) (hv : H.get vb = some (.cells vcs 57 true false)) (hvl : vo + 2 ≤ vcs.length) (hcl : o + n * 2 ≤ c.length)
    (hi : i < n) (hn : n ≤ 1000) (hne : b ≠ vb) (hone1 : ((vcs.drop vo).take 2).all AV.one = true) (hone2 : ((c.drop o).take (n * 2)).all AV.one = true) (hp : ρ b = some p) (hroom : n + 1 ≤ c') (htot : o + c' * 2 ≤ p.tot) (hu2 : VRel ρ (.slice (some (vb, vo)) 1 vc vsl) u2) :
    Calls Try.prog 24 #[.slice (some ⟨p.blk, p.off + o, none⟩) n c', .int .i64 i, u2] w fun e w' => ∃ u, e = .returned u ∧ ∃ ρ', Good Try.prog.globals.size ρ H w ρ' ((H.set b .dead).push (.cells (((c.drop o).take (n * 2)).take (i * 2) ++ ((vcs.drop vo).take 2 ++ ((c.drop o).take (n * 2)).drop (i * 2))) 57 true false)) w' ∧ VRel ρ' (.slice (some (H.next, 0)) (n + 1) (n + 1) (some 2)) u := by
  have hbl := hwf.lt hb
  have hvbl := hwf.lt hv
  obtain ⟨q, y, cv, hq, rfl, gv1, gv2, gv5, gv6⟩ := hu2
  have hy : y = ⟨q.blk, q.off + vo, none⟩ := by
    rcases gv5 with h | h
    · omega
    · exact h
  subst hy
  have hov := fun lb cb => overlaps_no (o := p.off + o + (i + 1) * 2) (vo := vo) (lb := lb) (cb := cb) (vc := cv) hs hb hv hne hp hq (by omega)
  have hg1 := Good.retarget (e2 := 57) hs hfree hb hp hcl
  have hl0 : ((c.drop o).take (n * 2)).length = n * 2 := by simp; omega
  have hp1 : (upd ρ H.next ⟨p.blk, p.off + o, p.tot - o⟩) H.next = some ⟨p.blk, p.off + o, p.tot - o⟩ := upd_same _ _ _
  have hqv : (upd ρ H.next ⟨p.blk, p.off + o, p.tot - o⟩) vb = some q := by rw [upd_ne _ _ (by omega)]; exact hq
  generalize hC0 : (c.drop o).take (n * 2) = C0 at *
  have hH1 : ((H.set b .dead).push (.cells C0 57 true false)).get H.next = some (.cells C0 57 true false) := by rw [Heap.get_push, Heap.next_set, if_pos rfl]
  have hV1 : ((H.set b .dead).push (.cells C0 57 true false)).get vb = some (.cells vcs 57 true false) := by rw [Heap.get_push, Heap.next_set, if_neg (by omega), Heap.get_set_ne _ _ (fun e => hne e.symm)]; exact hv
  generalize upd ρ H.next ⟨p.blk, p.off + o, p.tot - o⟩ = ρ1 at *
  have hg2 := good_drawn hg1.sim
  have hmv : ((C0.drop (i * 2)).take ((n - i) * 2)) = C0.drop (i * 2) := List.take_of_length_le (by rw [List.length_drop, hl0]; omega)
  have hsrc1 : srcCells ((H.set b .dead).push (.cells C0 57 true false)) 2 (n - i) (.slice (some (H.next, i * 2)) (n + 1 - i) (c' - i) none) = some (C0.drop (i * 2)) := by
    simp only [srcCells, cellsAt, hH1]
    rw [if_neg (by omega), if_pos (by omega), if_pos (by rw [hl0]; omega), hmv]
  have hlm : (C0.drop (i * 2)).length = (n - i) * 2 := by rw [List.length_drop, hl0]; omega
  obtain ⟨W1, hr1, hg3⟩ := copy_runX (P := Try.prog) (t1 := 52) (t2 := 52) (elem := 57) (size := 2) (k := n - i) (n := n + 1 - i) (dLen := n - i) (o := (i + 1) * 2) (x := .slice (some (H.next, i * 2)) (n + 1 - i) (c' - i) none) (ux := .slice (some ⟨p.blk, p.off + o + i * 2, none⟩) (n + 1 - i) (c' - i)) (cells := C0.drop (i * 2)) hg2.sim hH1 hp1 Try.underlying52 (by kernel_rfl)
    ⟨_, _, _, hp1, rfl, by omega, Nat.le_refl _, .inr rfl, .inl rfl⟩ rfl (by show min _ _ = _; omega) hsrc1 hlm (by rw [hl0]; omega) (by rw [hl0, hlm]; omega) (by rw [hlm]; simp only []; omega) (by
      rw [List.all_eq_true] at hone2 ⊢
      exact fun x hx => hone2 x (List.mem_of_mem_drop hx))
  have hl1 : (C0.take ((i + 1) * 2) ++ C0.drop (i * 2)).length = (n + 1) * 2 := by rw [List.length_append, List.length_take, hl0, hlm]; omega
  have hH2 : (((H.set b .dead).push (.cells C0 57 true false)).set H.next (.cells (C0.take ((i + 1) * 2) ++ C0.drop (i * 2)) 57 true false)).get H.next = some (.cells (C0.take ((i + 1) * 2) ++ C0.drop (i * 2)) 57 true false) := Heap.get_set_same _ _ _
  have hV2 : (((H.set b .dead).push (.cells C0 57 true false)).set H.next (.cells (C0.take ((i + 1) * 2) ++ C0.drop (i * 2)) 57 true false)).get vb = some (.cells vcs 57 true false) := by rw [Heap.get_set_ne _ _ (by omega)]; exact hV1
  have hsrc2 : srcCells (((H.set b .dead).push (.cells C0 57 true false)).set H.next (.cells (C0.take ((i + 1) * 2) ++ C0.drop (i * 2)) 57 true false)) 2 1 (.slice (some (vb, vo)) 1 vc vsl) = some ((vcs.drop vo).take 2) := by
    simp only [srcCells, cellsAt, hV2]
    rw [if_neg (by decide), if_pos (by decide), if_pos (by omega)]
  have hlv : ((vcs.drop vo).take 2).length = 2 := by simp; omega
  obtain ⟨W2, hr2, hg4⟩ := copy_runW (P := Try.prog) (t1 := 52) (t2 := 52) (elem := 57) (size := 2) (k := 1) (n := 1) (dLen := n + 1 - i) (o := i * 2) (x := .slice (some (vb, vo)) 1 vc vsl) (ux := .slice (some ⟨q.blk, q.off + vo, none⟩) 1 cv) (cells := (vcs.drop vo).take 2) hg3.sim hH2 hp1 Try.underlying52 (by kernel_rfl)
    ⟨_, _, _, hqv, rfl, gv1, gv2, .inr rfl, gv6⟩ rfl (by show min _ _ = _; omega) hsrc2 (by rw [hlv, hl1]; omega) hone1
  have hsh := Try.insShift p.blk (p.off + o) n c' i q.blk (q.off + vo) cv w W1 W2 hi hroom hn hov (fun ty dc => hr1 ty dc) (fun ty dc => hr2 ty dc)
  refine hsh.mono fun e w' ⟨he, hw⟩ => ⟨_, he, ρ1, ?_, ⟨p.blk, p.off + o, p.tot - o⟩, _, c', hp1, rfl, Nat.le_refl _, hroom, .inr rfl, .inr ⟨2, rfl, by simp only []; omega⟩⟩
  subst hw
  refine ((((hg1.trans hg2).trans hg3).trans hg4)).congr (fun x => ?_) (by simp)
  have hfin : writeAt (C0.take ((i + 1) * 2) ++ C0.drop (i * 2)) (i * 2) ((vcs.drop vo).take 2) = C0.take (i * 2) ++ ((vcs.drop vo).take 2 ++ C0.drop (i * 2)) := by
    rw [writeAt_eq _ _ _ (by rw [hlv, hl1]; omega), hlv]
    have e1 : (C0.take ((i + 1) * 2) ++ C0.drop (i * 2)).take (i * 2) = C0.take (i * 2) := by
      rw [List.take_append, List.take_take, Nat.min_eq_left (by omega), List.length_take, hl0]
      rw [show i * 2 - min ((i + 1) * 2) (n * 2) = 0 by omega]
      simp
    have e2 : (C0.take ((i + 1) * 2) ++ C0.drop (i * 2)).drop (i * 2 + 2) = C0.drop (i * 2) := by
      have hlt : (C0.take ((i + 1) * 2)).length = i * 2 + 2 := by rw [List.length_take, hl0]; omega
      rw [← hlt, List.drop_left]
    rw [e1, e2]
  rw [hfin, Heap.get_set]
  simp only [Heap.get_push, Heap.next_set, Heap.get_set]
  split
  · rfl
  · rfl
end
theorem insP_some {args : List AV} {H H' : Heap} {v : AV} (h : insP args H = some (v, H')) : ∃ base n cap sl i vb vo vc vsl vcs, args = [.slice base n cap sl, .int .i64 i, .slice (some (vb, vo)) 1 vc vsl] ∧ H.get vb = some (.cells vcs 57 true false) ∧
    (vo + 2 ≤ vcs.length ∧ ((vcs.drop vo).take 2).all AV.one = true ∧ n ≤ cap ∧ n ≤ 1000 ∧ (sl = none ∨ sl = some 2) ∧ (base = none → n = 0 ∧ cap = 0)) ∧
    ((i = n ∧ appendA 57 2 24 base n cap sl 1 ((vcs.drop vo).take 2) H = some (v, H')) ∨ ∃ (b o k : Nat) (c : List AV), i = k ∧ k < n ∧ base = some (b, o) ∧ H.get b = some (.cells c 57 true false) ∧ (b ≠ vb ∧ o + n * 2 ≤ c.length ∧ o + cap * 2 ≤ c.length ∧ ((c.drop o).take (n * 2)).all AV.one = true) ∧
      v = .slice (some (H.next, 0)) (n + 1) (n + 1) (some 2) ∧ H' = (H.set b .dead).push (.cells (((c.drop o).take (n * 2)).take (k * 2) ++ ((vcs.drop vo).take 2 ++ ((c.drop o).take (n * 2)).drop (k * 2))) 57 true false)) := by
  unfold insP at h
  split at h
  · rename_i H base n cap sl i vb vo vc vsl
    split at h
    · rename_i vcs hv
      split at h
      · rename_i hc
        refine ⟨base, n, cap, sl, i, vb, vo, vc, vsl, vcs, rfl, hv, hc, ?_⟩
        split at h
        · rename_i hi
          exact .inl ⟨hi, h⟩
        · split at h
          · rename_i hi2
            split at h
            · rename_i b o
              split at h
              · rename_i c hb
                split at h
                · rename_i hk
                  injection h with h
                  simp only [Prod.mk.injEq] at h
                  obtain ⟨rfl, rfl⟩ := h
                  exact .inr ⟨b, o, i.toNat, c, by omega, by omega, rfl, hb, hk, rfl, rfl⟩
                · cases h
              · cases h
            · cases h
          · cases h
      · cases h
    · cases h
  · cases h
theorem insPrims_rl : PrimsRl insPrims := by
  intro f g hf args H v H' hg
  unfold insPrims at hf
  split at hf
  · injection hf with hf; subst hf
    obtain ⟨base, n, cap, sl, i, vb, vo, vc, vsl, vcs, _, hv, _, h⟩ := insP_some hg
    rcases h with ⟨_, ha⟩ | ⟨b, o, k, c, _, _, _, hb, _, _, rfl⟩
    · exact appendA_rl ha
    · exact (Rl.set hb _).trans (Rl.push _ _)
  · cases hf
theorem insPrims_ok : PrimsOk Try.prog insPrims := by
  refine ⟨?_, ?_, ?_⟩
  · intro f g hf args H v H' hg
    exact (insPrims_rl f g hf args H v H' hg).1
  · intro f g hf args H v H' hg ρ w us hs hwf hfree hargs
    unfold insPrims at hf
    split at hf
    · rename_i hff
      subst hff
      injection hf with hf
      subst hf
      obtain ⟨base, n, cap, sl, i, vb, vo, vc, vsl, vcs, rfl, hv, ⟨c1, c2, c3, c4, c5, c6⟩, h⟩ := insP_some hg
      unfold Does Delivers
      rw [run_callFunc_enter Try.func24 (by kernel_rfl) (by kernel_rfl)]
      rcases h with ⟨rfl, ha⟩ | ⟨b, o, k, c, rfl, hk, rfl, hb, ⟨d1, d2, d3, d4⟩, rfl, rfl⟩
      · have hC := insEnd (vc := vc) (vsl := vsl) hv c1 ha c3 c5 c6
        unfold Cl at hC
        have hC := hC noRl hwf
        unfold CallsA at hC
        obtain ⟨m, v2, H2, hcall, e1, e2⟩ := hC
        subst e1; subst e2
        exact acall_sound (noPrims_ok Try.prog) mixed05 plain05 Try.func24 rfl hcall hs hwf hfree hargs
      · obtain ⟨u0, u1, u2, rfl, h0, h1, h2⟩ := vrels3 hargs
        have hfr : ρ H.next = none := hfree _ (Nat.le_refl _) (by simp)
        cases h1
        obtain ⟨p, x, c', hp, rfl, g1, g2, g5, g6⟩ := h0
        by_cases hroom : n + 1 ≤ c'
        · have hx : x = ⟨p.blk, p.off + o, none⟩ := by
            rcases g5 with g | g
            · omega
            · exact g
          subst hx
          obtain ⟨p1, C, el, fr, hp1, hh, hc, hl1, hl2, hown⟩ := hs.obj b _ hb
          rw [hp] at hp1; injection hp1 with hp1; subst hp1
          have htot : o + c' * 2 ≤ p.tot := by
            rcases g6 with g | ⟨s, hs', g⟩
            · rw [g]; omega
            · rcases c5 with c5 | c5
              · rw [c5] at hs'; cases hs'
              · rw [c5] at hs'; injection hs' with hs'; subst hs'; exact g
          exact ins_room hs hwf hfr hb hv c1 d2 hk c4 d1 c2 d4 hp hroom htot h2
        · have hcn : c' = n := by omega
          subst hcn
          exact ins_new (vc := vc) (vsl := vsl) hs hwf hfr hb hv c1 d2 hk c4 c2 d4 ⟨_, _, rfl, ⟨p, x, c', hp, rfl, Nat.le_refl _, Nat.le_refl _, g5, .inl rfl⟩, _, _, rfl, rfl, _, _, rfl, h2, rfl⟩
    · cases hf
  · refine seqPrims_of fun f' g hf => ?_
    unfold insPrims at hf
    split at hf
    · rename_i hff
      subst hff
      exact ⟨_, Try.func24⟩
    · cases hf
end Go.Abs

/- Chapter 05: what is told by hand; a directory that there is none of. -/
namespace Go.Abs
open Go.Proofs
set_option maxRecDepth 100000
set_option linter.unusedVariables false
set_option linter.unusedSimpArgs false

def base05 : Prims := orPrims insPrims (orPrims (extPrims [(30, containsAV)]) (extPrims [(43, cmpAV)]))
def pr05 : Prims := orPrims (closedPrims [(9, .bool true)]) base05
theorem lives_ok (H : Heap) : Cl Try.prog pr05 9 [] H fun v H' => v = .bool true ∧ H' = H := Cl.prim (v := .bool true) (H' := H) rfl rfl ⟨rfl, rfl⟩
theorem len_nil (H : Heap) : Cl Try.prog pr05 11 [.ptr none] H fun v H' => v = .int .i64 0 ∧ H' = H := by
  refine Cl.enter Try.func11 rfl rfl Try.ntmps11 (by simp) ?_
  refine walk none0 ?_
  exact ⟨rfl, rfl⟩
theorem page_nil (f n : Int) (H : Heap) : Cl Try.prog pr05 14 [.ptr none, .int .i64 f, .int .i64 n] H fun v H' => v = .slice none 0 0 none ∧ H' = H := by
  by_cases h1 : f < 0
  · refine Cl.enter Try.func14 rfl rfl Try.ntmps14 (by simp) ?_
    refine walk h1 ?_
    exact ⟨rfl, rfl⟩
  · by_cases h2 : n < 0
    · refine Cl.enter Try.func14 rfl rfl Try.ntmps14 (by simp) ?_
      refine walk (both h1 h2) ?_
      exact ⟨rfl, rfl⟩
    · by_cases h3 : 0 < f
      · refine Cl.enter Try.func14 rfl rfl Try.ntmps14 (by simp) ?_
        refine walk (both h1 h2) ?_
        refine (len_nil H).mono fun v H1 _ ⟨ea, eb⟩ => ?_
        subst ea; subst eb
        refine walk h3 ?_
        exact ⟨rfl, rfl⟩
      · obtain rfl : f = 0 := by omega
        refine Cl.enter Try.func14 rfl rfl Try.ntmps14 (by simp) ?_
        refine walk (both h1 h2) ?_
        refine (len_nil H).mono fun v H1 _ ⟨ea, eb⟩ => ?_
        subst ea; subst eb
        refine walk h3 ?_
        refine Wq.loop (fun m e H' => H' = H1 ∧ e 0 = .ptr none ∧ e 7 = .slice none 0 0 none ∧ e 8 = .int .i64 0) 0 ⟨rfl, by simp, by simp, by simp⟩ ?_
        rintro m e H' ⟨rfl, g0, g7, g8⟩
        refine walk (both g0 (both g7 g8)) ?_
        refine (len_nil H').mono fun v H2 _ ⟨ea, eb⟩ => ?_
        subst ea; subst eb
        refine walk (both g0 (both g7 g8)) ?_
        exact ⟨rfl, rfl⟩
theorem dirsNil_main (k ino f n : Int) (s : List UInt8) (H : Heap) : Cl Try.prog pr05 6 [.agg [.int .i64 k, .str s, .int .i64 ino], .int .i64 f, .int .i64 n] H fun v _ => v = .bool true := by
  refine Cl.enter Try.func6 rfl rfl Try.ntmps6 (by simp) ?_
  refine walk none0 ?_
  refine Cl.enter Try.func16 rfl rfl Try.ntmps16 (by simp) ?_
  refine walk none0 ?_
  refine Cl.enter Try.func20 rfl rfl Try.ntmps20 (by simp) ?_
  refine walk none0 ?_
  refine Cl.enter Try.func21 rfl rfl Try.ntmps21 (by simp) ?_
  refine walk none0 ?_
  refine (len_nil _).mono fun v H1 _ ⟨ea, eb⟩ => ?_
  subst ea; subst eb
  refine walk none0 ?_
  refine Cl.enter Try.func10 rfl rfl Try.ntmps10 (by simp) ?_
  refine walk none0 ?_
  refine Cl.enter Try.func18 rfl rfl Try.ntmps18 (by simp) ?_
  refine walk none0 ?_
  refine (len_nil _).mono fun v H1 _ ⟨ea, eb⟩ => ?_
  subst ea; subst eb
  refine walk none0 ?_
  refine (page_nil 0 0 _).mono fun v H1 _ ⟨ea, eb⟩ => ?_
  subst ea; subst eb
  refine walk none0 ?_
  refine (page_nil f n _).mono fun v H1 _ ⟨ea, eb⟩ => ?_
  subst ea; subst eb
  refine walk none0 ?_
  refine (lives_ok _).mono fun v H1 _ ⟨ea, eb⟩ => ?_
  subst ea; subst eb
  refine walk none0 ?_
  rfl
end Go.Abs

/- Chapter 05: names in order. -/
namespace Go.Abs
open Go.Proofs
set_option maxRecDepth 100000
set_option linter.unusedVariables false
set_option linter.unusedSimpArgs false

abbrev Nm8 := List UInt8
def cmpN (a b : Nm8) : Int := Lib.compareBytes a b
theorem cmpN_three : ∀ a b : Nm8, cmpN a b = -1 ∨ cmpN a b = 0 ∨ cmpN a b = 1
  | [], [] => .inr (.inl rfl)
  | [], _ :: _ => .inl rfl
  | _ :: _, [] => .inr (.inr rfl)
  | a :: xs, b :: ys => by
    unfold cmpN Lib.compareBytes
    split
    · exact .inl rfl
    · split
      · exact .inr (.inr rfl)
      · exact cmpN_three xs ys
theorem cmpN_self : ∀ a : Nm8, cmpN a a = 0
  | [] => rfl
  | a :: xs => by
    unfold cmpN Lib.compareBytes
    have h : ¬ a < a := UInt8.lt_irrefl a
    rw [if_neg h, if_neg h]
    exact cmpN_self xs
theorem cmpN_eq : ∀ {a b : Nm8}, cmpN a b = 0 → a = b
  | [], [], _ => rfl
  | [], _ :: _, h => by cases h
  | _ :: _, [], h => by cases h
  | a :: xs, b :: ys, h => by
    unfold cmpN Lib.compareBytes at h
    split at h
    · cases h
    · rename_i h1
      split at h
      · cases h
      · rename_i h2
        have e : a = b := by
          apply UInt8.toNat_inj.1
          have h1' : ¬ a.toNat < b.toNat := fun h => h1 (UInt8.lt_iff_toNat_lt.2 h)
          have h2' : ¬ b.toNat < a.toNat := fun h => h2 (UInt8.lt_iff_toNat_lt.2 h)
          omega
        rw [e, cmpN_eq (a := xs) (b := ys) h]
theorem cmpN_swap : ∀ {a b : Nm8}, cmpN a b = -1 → cmpN b a = 1
  | [], [], h => by cases h
  | [], _ :: _, _ => rfl
  | _ :: _, [], h => by cases h
  | a :: xs, b :: ys, h => by
    unfold cmpN Lib.compareBytes at h ⊢
    split at h
    · rename_i h1
      have h2 : ¬ b < a := fun h2 => by have := UInt8.lt_iff_toNat_lt.1 h1; have := UInt8.lt_iff_toNat_lt.1 h2; omega
      rw [if_neg h2, if_pos h1]
    · rename_i h1
      split at h
      · cases h
      · rename_i h2
        rw [if_neg h2, if_neg h1]
        exact cmpN_swap (a := xs) (b := ys) h
theorem cmpN_swap' : ∀ {a b : Nm8}, cmpN a b = 1 → cmpN b a = -1
  | [], [], h => by cases h
  | [], _ :: _, h => by cases h
  | _ :: _, [], _ => rfl
  | a :: xs, b :: ys, h => by
    unfold cmpN Lib.compareBytes at h ⊢
    split at h
    · cases h
    · rename_i h1
      split at h
      · rename_i h2
        rw [if_pos h2]
      · rename_i h2
        rw [if_neg h2, if_neg h1]
        exact cmpN_swap' (a := xs) (b := ys) h
def ltN (a b : Nm8) : Prop := cmpN a b = -1
instance (a b : Nm8) : Decidable (ltN a b) := inferInstanceAs (Decidable (_ = _))
theorem ltN_irrefl (a : Nm8) : ¬ ltN a a := fun h => by unfold ltN at h; rw [cmpN_self] at h; cases h
theorem ltN_asymm {a b : Nm8} (h : ltN a b) : ¬ ltN b a := fun g => by have := cmpN_swap h; unfold ltN at g; rw [this] at g; cases g
theorem ltN_trans : ∀ {a b c : Nm8}, ltN a b → ltN b c → ltN a c
  | [], [], _, h, _ => by cases h
  | [], _ :: _, [], _, h => by cases h
  | [], _ :: _, _ :: _, _, _ => rfl
  | _ :: _, [], _, h, _ => by cases h
  | _ :: _, _ :: _, [], _, h => by cases h
  | a :: xs, b :: ys, c :: zs, h, g => by
    unfold ltN cmpN Lib.compareBytes at h g ⊢
    split at h
    · rename_i h1
      have h1 := UInt8.lt_iff_toNat_lt.1 h1
      split at g
      · rename_i g1
        have g1 := UInt8.lt_iff_toNat_lt.1 g1
        rw [if_pos (UInt8.lt_iff_toNat_lt.2 (by omega))]
      · rename_i g1
        split at g
        · cases g
        · rename_i g2
          have g1 : ¬ b.toNat < c.toNat := fun h => g1 (UInt8.lt_iff_toNat_lt.2 h)
          have g2 : ¬ c.toNat < b.toNat := fun h => g2 (UInt8.lt_iff_toNat_lt.2 h)
          rw [if_pos (UInt8.lt_iff_toNat_lt.2 (by omega))]
    · rename_i h1
      split at h
      · cases h
      · rename_i h2
        have h1 : ¬ a.toNat < b.toNat := fun h => h1 (UInt8.lt_iff_toNat_lt.2 h)
        have h2 : ¬ b.toNat < a.toNat := fun h => h2 (UInt8.lt_iff_toNat_lt.2 h)
        split at g
        · rename_i g1
          have g1 := UInt8.lt_iff_toNat_lt.1 g1
          rw [if_pos (UInt8.lt_iff_toNat_lt.2 (by omega))]
        · rename_i g1
          split at g
          · cases g
          · rename_i g2
            have g1 : ¬ b.toNat < c.toNat := fun h => g1 (UInt8.lt_iff_toNat_lt.2 h)
            have g2 : ¬ c.toNat < b.toNat := fun h => g2 (UInt8.lt_iff_toNat_lt.2 h)
            rw [if_neg (fun h => by have := UInt8.lt_iff_toNat_lt.1 h; omega), if_neg (fun h => by have := UInt8.lt_iff_toNat_lt.1 h; omega)]
            exact ltN_trans (a := xs) (b := ys) (c := zs) h g
theorem ltN_total {a b : Nm8} (h : ¬ ltN a b) (g : ¬ ltN b a) : a = b := by
  rcases cmpN_three a b with e | e | e
  · exact absurd e h
  · exact cmpN_eq e
  · exact absurd (cmpN_swap' e) g
theorem bytesLess_lt : ∀ a b : Nm8, Op.bytesLess a b = decide (ltN a b)
  | a, [] => by
    cases a with
    | nil => rfl
    | cons a xs => rfl
  | [], b :: ys => rfl
  | a :: xs, b :: ys => by
    have ih := bytesLess_lt xs ys
    unfold Op.bytesLess ltN cmpN Lib.compareBytes
    by_cases h1 : a < b
    · rw [if_pos h1]; simp [h1]
    · rw [if_neg h1]
      by_cases h2 : b < a
      · rw [if_pos h2]
        have hne : ¬ a = b := fun e => h1 (by rw [e] at h2; exact absurd h2 (UInt8.lt_irrefl b))
        simp [h1, hne]
      · rw [if_neg h2]
        have e : a = b := by
          apply UInt8.toNat_inj.1
          have h1' : ¬ a.toNat < b.toNat := fun h => h1 (UInt8.lt_iff_toNat_lt.2 h)
          have h2' : ¬ b.toNat < a.toNat := fun h => h2 (UInt8.lt_iff_toNat_lt.2 h)
          omega
        subst e
        rw [ih]
        unfold ltN cmpN
        simp [h1]
        exact decide_eq_decide.2 Iff.rfl
end Go.Abs

/- Chapter 05: entries in order; the place of a name, walked. -/
namespace Go.Abs
open Go.Proofs
set_option maxRecDepth 100000
set_option linter.unusedVariables false
set_option linter.unusedSimpArgs false

abbrev EntT := Nm8 × Int
def encT (x : EntT) : List AV := [.str x.1, .int .i64 x.2]
theorem encT_len (x : EntT) : (encT x).length = 2 := rfl
theorem flatT_one (l : List EntT) : (flat encT l).all AV.one = true := by
  rw [List.all_eq_true]
  intro y hy
  obtain ⟨x, _, hy⟩ := List.mem_flatMap.1 hy
  simp [encT] at hy
  rcases hy with rfl | rfl <;> rfl
def Rising (l : List EntT) : Prop := ∀ (i j : Nat) (x y : EntT), i < j → l[i]? = some x → l[j]? = some y → ltN x.1 y.1
/-- The place of a name. -/
structure Low (l : List EntT) (s : Nm8) (k : Nat) : Prop where
  le : k ≤ l.length
  lo : ∀ (i : Nat) (x : EntT), i < k → l[i]? = some x → ltN x.1 s
  hi : ∀ (i : Nat) (x : EntT), k ≤ i → l[i]? = some x → ¬ ltN x.1 s
theorem geti_ltT {l : List EntT} {i : Nat} (h : i < l.length) : ∃ s n, l[i]? = some (s, n) := ⟨l[i].1, l[i].2, by simp [h]⟩
theorem ent_at {H : Heap} {a : Option (Nat × Nat)} {cap : Nat} {ex : Option Nat} {l : List EntT} {i : Nat} {s : Nm8} {n : Int} (h : Sl H 2 (.slice a l.length cap ex) l.length (flat encT l)) (hx : l[i]? = some (s, n)) :
    ∃ b o c t w m, a = some (b, o) ∧ b < H.next ∧ H.get b = some (.cells c t w m) ∧ o + i * 2 + 2 ≤ c.length ∧ (c.drop (o + i * 2)).take 2 = [.str s, .int .i64 n] ∧ c[o + i * 2]? = some (.str s) ∧ c[o + i * 2 + 1]? = some (.int .i64 n) := by
  have hi := (List.getElem?_eq_some_iff.1 hx).1
  obtain ⟨b, o, c, t, w, m, rfl, h1, h2, h3, h4⟩ := h.at (by omega)
  have hd : (c.drop (o + i * 2)).take 2 = [.str s, .int .i64 n] := by rw [sub_take h4 (by omega)]; exact flat_take encT_len hx
  refine ⟨b, o, c, t, w, m, rfl, h1, h2, by omega, hd, ?_, ?_⟩
  · have := sub_get (i := 0) hd (by omega); simpa using this
  · have := sub_get (i := 1) hd (by omega); simpa using this
theorem cmp32_ok (s t : Nm8) (n : Int) (H : Heap) : Cl Try.prog pr05 32 [.agg [.str s, .int .i64 n], .str t] H fun r H' => Keep H H' ∧ r = .int .i64 (cmpN s t) := by
  refine Cl.enter Try.func32 rfl rfl Try.ntmps32 (by simp) ?_
  refine walk none0 ?_
  refine Cl.enter Try.func33 rfl rfl Try.ntmps33 (by simp) ?_
  refine walk none0 ?_
  refine Cl.enter Try.func37 rfl rfl Try.ntmps37 (by simp) ?_
  refine walk none0 ?_
  refine Cl.prim (v := .int .i64 (cmpN s t)) (H' := H.push (.cells [.str s, .int .i64 n] 57 true false)) rfl rfl ?_
  refine walk none0 ?_
  exact ⟨Upd.rfl.push _, rfl⟩
def found (l : List EntT) (s : Nm8) (k : Nat) : Bool := match l[k]? with
  | some x => decide (x.1 = s)
  | none => false
theorem half_ok {i j : Nat} (h : i + j ≤ 4000) : IntKind.i64.wrap ((IntKind.u64.wrap ((i : Int) + j)).fdiv (2 ^ min 1 IntKind.u64.bits)) = ((i + j) / 2 : Nat) := by
  have e : (2 : Int) ^ min 1 IntKind.u64.bits = 2 := by decide
  rw [e, Int.fdiv_eq_ediv_of_nonneg _ (by omega)]
  simp [IntKind.wrap, IntKind.signed, IntKind.bits]
  omega
theorem search31_ok {H : Heap} {v : AV} {l : List EntT} (s : Nm8) (h0 : Sl H 2 v l.length (flat encT l)) (hn : l.length ≤ 1000) (hr : Rising l) : Cl Try.prog pr05 31 [v, .str s, .func (.func 32) [] []] H fun r H' => Keep H H' ∧ ∃ k, Low l s k ∧ r = .tuple [.int .i64 k, .bool (found l s k)] := by
  obtain ⟨va, cap, ex, rfl, hc, hex⟩ := h0.form
  obtain ⟨N, hN⟩ : ∃ N, N = l.length := ⟨_, rfl⟩
  refine Cl.enter Try.func31 rfl rfl Try.ntmps31 (by simp) ?_
  refine walk none0 ?_
  rw [← hN]
  refine Wq.loop (fun m e H' => ∃ i j : Nat, i ≤ j ∧ j ≤ N ∧ m = j - i ∧ Keep H H' ∧ e 0 = .slice va N cap ex ∧ e 1 = .str s ∧ e 2 = .func (.func 32) [] [] ∧ e 8 = .int .i64 N ∧ e 9 = .int .i64 i ∧ e 10 = .int .i64 j ∧ (∀ (a : Nat) (x : EntT), a < i → l[a]? = some x → ltN x.1 s) ∧ ∀ (a : Nat) (x : EntT), j ≤ a → l[a]? = some x → ¬ ltN x.1 s) N ?_ ?_
  · exact ⟨0, N, by omega, by omega, by omega, Upd.rfl, by simp, by simp, by simp, by simp, by simp, by simp, fun a x h => by omega, fun a x h1 h2 => by have := (List.getElem?_eq_some_iff.1 h2).1; omega⟩
  · rintro m e H' ⟨i, j, hij, hj, rfl, kk, g0, g1, g2, g8, g9, g10, hlo, hhi⟩
    by_cases hlt : i < j
    · have hmid := half_ok (i := i) (j := j) (by omega)
      obtain ⟨h, hh⟩ : ∃ h, h = (i + j) / 2 := ⟨_, rfl⟩
      rw [← hh] at hmid
      have h1 : h < N := by omega
      have h1I : (h : Int) < N := by omega
      obtain ⟨t, n, hx⟩ := geti_ltT (l := l) (i := h) (by omega)
      have hS := h0.kept kk
      rw [hN] at g0
      obtain ⟨b, o, c, ty, w, mk, rfl, q1, q2, q3, q4, q5, q6⟩ := ent_at hS hx
      rw [← hN] at g0
      refine walk (both g0 (both g1 (both g2 (both g8 (both g9 (both g10 (both hlt (both hmid (both h1 (both h1I (both q2 (both q3 q4)))))))))))) ?_
      refine (cmp32_ok t s n _).mono fun r H2 _ ⟨k2, ea⟩ => ?_
      subst ea
      by_cases hl : ltN t s
      · have hc : cmpN t s = -1 := hl
        rw [hc]
        refine walk (both g0 (both g1 (both g2 (both g8 (both g9 g10))))) ?_
        refine Roundq.normal (j - (h + 1)) (by omega) ⟨h + 1, j, by omega, by omega, rfl, kk.then k2, by simp [g0], by simp [g1], by simp [g2], by simp [g8], by simp, by simp [g10], fun a x h2 h3 => ?_, hhi⟩
        rcases Nat.lt_or_ge a h with h4 | h4
        · exact ltN_trans (hr a h x (t, n) h4 h3 hx) hl
        · obtain rfl : a = h := by omega
          rw [hx] at h3
          injection h3 with h3
          rw [← h3]
          exact hl
      · have hc : ¬ cmpN t s < 0 := by
          rcases cmpN_three t s with e | e | e
          · exact absurd e hl
          · omega
          · omega
        refine walk (both g0 (both g1 (both g2 (both g8 (both g9 (both g10 hc)))))) ?_
        refine Roundq.normal (h - i) (by omega) ⟨i, h, by omega, by omega, rfl, kk.then k2, by simp [g0], by simp [g1], by simp [g2], by simp [g8], by simp [g9], by simp, hlo, fun a x h2 h3 => ?_⟩
        rcases Nat.lt_or_ge h a with h4 | h4
        · exact fun h5 => hl (ltN_trans (hr h a (t, n) x h4 hx h3) h5)
        · obtain rfl : a = h := by omega
          rw [hx] at h3
          injection h3 with h3
          rw [← h3]
          exact hl
    · obtain rfl : i = j := by omega
      have hL : Low l s i := ⟨by omega, hlo, hhi⟩
      by_cases hin : i < N
      · have hinI : (i : Int) < N := by omega
        obtain ⟨t, n, hx⟩ := geti_ltT (l := l) (i := i) (by omega)
        have hS := h0.kept kk
        rw [hN] at g0
        obtain ⟨b, o, c, ty, w, mk, rfl, q1, q2, q3, q4, q5, q6⟩ := ent_at hS hx
        rw [← hN] at g0
        have hf : found l s i = decide (t = s) := by unfold found; rw [hx]
        refine walk (both g0 (both g1 (both g2 (both g8 (both g9 (both g10 (both hlt (both hin (both hinI (both q2 (both q3 q4))))))))))) ?_
        refine (cmp32_ok t s n _).mono fun r H2 _ ⟨k2, ea⟩ => ?_
        subst ea
        by_cases he : t = s
        · subst he
          have hc := cmpN_self t
          rw [hc]
          refine walk (both g0 (both g1 (both g2 (both g8 (both g9 g10))))) ?_
          exact ⟨kk.then k2, i, hL, by rw [hf]; simp⟩
        · have hc : ¬ cmpN t s = 0 := fun e => he (cmpN_eq e)
          refine walk (both g0 (both g1 (both g2 (both g8 (both g9 (both g10 hc)))))) ?_
          exact ⟨kk.then k2, i, hL, by rw [hf]; simp [he]⟩
      · have hinI : ¬ (i : Int) < N := by omega
        have hf : found l s i = false := by unfold found; rw [List.getElem?_eq_none (by omega)]
        refine walk (both g0 (both g1 (both g2 (both g8 (both g9 (both g10 (both hlt (both hin hinI)))))))) ?_
        exact ⟨kk, i, hL, by rw [hf]⟩
end Go.Abs

/- Chapter 05: a directory, and what is told of it, walked. -/
namespace Go.Abs
open Go.Proofs
set_option maxRecDepth 100000
set_option linter.unusedVariables false
set_option linter.unusedSimpArgs false

structure DirR (H : Heap) (p : Nat) (slv : AV) (l : List EntT) : Prop where
  g : H.get p = some (.cells [slv] 54 true false)
  own : OwnG H 57 2 slv l.length (flat encT l)
  lt : p < H.next
  ap : slBlock slv ≠ some p
  bl : ∀ z, slBlock slv = some z → z < H.next
  up : Rising l
  few : l.length ≤ 64
  pos : ∀ x ∈ l, 0 < x.2
theorem DirR.upd {H H' : Heap} {p : Nat} {slv : AV} {l : List EntT} {fp : Nat → Prop} (h : DirR H p slv l) (u : Upd fp H H') (h1 : ¬ fp p) (h2 : ∀ z, slBlock slv = some z → ¬ fp z) : DirR H' p slv l :=
  ⟨(u.keep p h.lt h1).trans h.g, h.own.upd u h2, by have := h.lt; have := u.next; omega, h.ap, fun z hz => by have := h.bl z hz; have := u.next; omega, h.up, h.few, h.pos⟩
theorem DirR.kept {H H' : Heap} {p : Nat} {slv : AV} {l : List EntT} (h : DirR H p slv l) (k : Keep H H') : DirR H' p slv l := h.upd k (fun h => h) fun _ _ h => h
theorem New7_ok (H : Heap) : Cl Try.prog pr05 7 [] H fun r H' => r = .ptr (some (H.next, 0)) ∧ Keep H H' ∧ DirR H' H.next (.slice none 0 0 none) [] := by
  refine Cl.enter Try.func7 rfl rfl Try.ntmps7 (by simp) ?_
  refine walk none0 ?_
  exact ⟨rfl, Upd.rfl.push _, by simp, OwnG.nil, by simp, by simp [slBlock], by simp [slBlock], fun i j x y _ h => by simp at h, by simp, by simp⟩
theorem Len11_ok {H : Heap} {p : Nat} {slv : AV} {l : List EntT} (h : DirR H p slv l) : Cl Try.prog pr05 11 [.ptr (some (p, 0))] H fun r H' => H' = H ∧ r = .int .i64 l.length := by
  have hg := h.g
  obtain ⟨a, cap, ex, rfl, _⟩ := h.own.form
  refine Cl.enter Try.func11 rfl rfl Try.ntmps11 (by simp) ?_
  refine walk hg ?_
  exact ⟨rfl, rfl⟩
theorem at23_ok {H : Heap} {p : Nat} {slv : AV} {l : List EntT} (h : DirR H p slv l) (s : Nm8) : Cl Try.prog pr05 23 [.ptr (some (p, 0)), .str s] H fun r H' => Keep H H' ∧ ∃ k, Low l s k ∧ r = .tuple [.int .i64 k, .bool (found l s k)] := by
  have hg := h.g
  obtain ⟨a, cap, ex, rfl, _⟩ := h.own.form
  refine Cl.enter Try.func23 rfl rfl Try.ntmps23 (by simp) ?_
  refine walk hg ?_
  refine (search31_ok s h.own.sl (by have := h.few; omega) h.up).mono fun r H1 _ ⟨k1, k, hL, ea⟩ => ?_
  subst ea
  refine walk none0 ?_
  exact ⟨k1, k, hL, rfl⟩
/-- The number of a name; 0: there is none. -/
def findT : List EntT → Nm8 → Int
  | [], _ => 0
  | (t, n) :: l, s => if t = s then n else findT l s
theorem findT_at : ∀ {l : List EntT} {s : Nm8} {n : Int} {k : Nat}, (∀ (i j : Nat) (x y : EntT), l[i]? = some x → l[j]? = some y → x.1 = y.1 → i = j) → l[k]? = some (s, n) → findT l s = n
  | [], _, _, _, _, h => by simp at h
  | (t, m) :: l, s, n, 0, _, h => by
    simp at h
    obtain ⟨rfl, rfl⟩ := h
    simp [findT]
  | (t, m) :: l, s, n, k + 1, hu, h => by
    have hne : t ≠ s := fun e => by
      have := hu 0 (k + 1) (t, m) (s, n) rfl h e
      omega
    simp only [findT, if_neg hne]
    exact findT_at (l := l) (k := k) (fun i j x y hx hy e => by
      have := hu (i + 1) (j + 1) x y (by simpa using hx) (by simpa using hy) e
      omega) (by simpa using h)
theorem findT_no : ∀ {l : List EntT} {s : Nm8}, (∀ x ∈ l, x.1 ≠ s) → findT l s = 0
  | [], _, _ => rfl
  | (t, m) :: l, s, h => by
    simp only [findT, if_neg (h (t, m) (by simp))]
    exact findT_no fun x hx => h x (by simp [hx])
theorem Rising.uniq {l : List EntT} (h : Rising l) : ∀ (i j : Nat) (x y : EntT), l[i]? = some x → l[j]? = some y → x.1 = y.1 → i = j := fun i j x y hx hy e => by
  rcases Nat.lt_trichotomy i j with g | g | g
  · have := h i j x y g hx hy; rw [e] at this; exact absurd this (ltN_irrefl _)
  · exact g
  · have := h j i y x g hy hx; rw [e] at this; exact absurd this (ltN_irrefl _)
theorem Low.yes {l : List EntT} {s : Nm8} {k : Nat} (hr : Rising l) (h : Low l s k) (hf : found l s k = true) : ∃ n, l[k]? = some (s, n) ∧ findT l s = n := by
  unfold found at hf
  split at hf
  · rename_i x hx
    simp at hf
    obtain ⟨t, n⟩ := x
    simp only [] at hf
    subst hf
    exact ⟨n, hx, findT_at hr.uniq hx⟩
  · cases hf
theorem Low.no {l : List EntT} {s : Nm8} {k : Nat} (hr : Rising l) (h : Low l s k) (hf : found l s k = false) : (∀ x ∈ l, x.1 ≠ s) ∧ ∀ (i : Nat) (x : EntT), k ≤ i → l[i]? = some x → ltN s x.1 := by
  have hk : ∀ x, l[k]? = some x → x.1 ≠ s := fun x hx e => by unfold found at hf; rw [hx] at hf; simp [e] at hf
  have h2 : ∀ (i : Nat) (x : EntT), k ≤ i → l[i]? = some x → ltN s x.1 := fun i x hi hx => by
    have h1 := h.hi i x hi hx
    apply Classical.byContradiction
    intro h3
    have e := ltN_total h1 h3
    rcases Nat.lt_or_ge k i with g | g
    · obtain ⟨t, m, hy⟩ := geti_ltT (l := l) (i := k) (by have := (List.getElem?_eq_some_iff.1 hx).1; omega)
      have h4 := hr k i (t, m) x g hy hx
      rw [e] at h4
      exact h.hi k (t, m) (Nat.le_refl _) hy h4
    · obtain rfl : i = k := by omega
      exact hk x hx e
  refine ⟨fun x hx e => ?_, h2⟩
  obtain ⟨i, hi⟩ := List.mem_iff_getElem?.1 hx
  rcases Nat.lt_or_ge i k with g | g
  · have := h.lo i x g hi; rw [e] at this; exact ltN_irrefl _ this
  · have := h2 i x g hi; rw [e] at this; exact ltN_irrefl _ this
theorem Find16_ok {H : Heap} {p : Nat} {slv : AV} {l : List EntT} (h : DirR H p slv l) (s : Nm8) : Cl Try.prog pr05 16 [.ptr (some (p, 0)), .str s] H fun r H' => Keep H H' ∧ r = .tuple [.int .i64 (findT l s), .bool (decide (0 < findT l s))] := by
  refine Cl.enter Try.func16 rfl rfl Try.ntmps16 (by simp) ?_
  refine walk none0 ?_
  refine (at23_ok h s).mono fun r H1 _ ⟨k1, k, hL, ea⟩ => ?_
  subst ea
  cases hf : found l s k with
  | false =>
    rw [findT_no (hL.no h.up hf).1]
    refine walk none0 ?_
    exact ⟨k1, rfl⟩
  | true =>
    obtain ⟨n, hx, hfn⟩ := hL.yes h.up hf
    have hn := h.pos _ (List.mem_of_getElem? hx)
    have h1 := h.kept k1
    have hg := h1.g
    have hk := (List.getElem?_eq_some_iff.1 hx).1
    have hkI : (k : Int) < l.length := by omega
    obtain ⟨a, cap, ex, rfl, _⟩ := h1.own.form
    obtain ⟨b, o, c, ty, w, mk, rfl, q1, q2, q3, q4, q5, q6⟩ := ent_at h1.own.sl hx
    have q3a : o + k * 2 + 1 < c.length := by omega
    refine walk (both hg (both hk (both hkI (both q2 (both q3a q6))))) ?_
    exact ⟨k1, by rw [hfn, decide_eq_true hn]⟩
end Go.Abs

/- Chapter 05: which names are names, walked (chapter 03's, turned). -/
namespace Go.Abs
open Go.Proofs
set_option maxRecDepth 100000
set_option linter.unusedVariables false
set_option linter.unusedSimpArgs false

theorem long_ok (s : List UInt8) (H : Heap) : Cl Try.prog pr05 29 [.str s] H fun v H' => v = .bool (decide (32 < (s.length : Int))) ∧ H' = H := by
  refine Cl.enter Try.func29 rfl rfl Try.ntmps29 (by simp) ?_
  refine walk none0 ?_
  exact ⟨rfl, rfl⟩
theorem any_ok (s : List UInt8) (hs : s.length ≤ 3000) (H : Heap) : Cl Try.prog pr05 30 [.str s, .str [47, 0]] H fun v H' => v = .bool (Lib.containsAny s [47, 0]) ∧ H' = H :=
  Cl.prim (v := .bool (Lib.containsAny s [47, 0])) (H' := H) (g := fun args H => match containsAV args with | some v => some (v, H) | none => none) rfl (by simp only [containsAV]; rw [if_pos ⟨trivial, by omega⟩]) ⟨rfl, rfl⟩
def nameE (s : List UInt8) : Int := if s = [] then 2 else if 32 < s.length then 63 else if s = [46] ∨ s = [46, 46] ∨ Lib.containsAny s [47, 0] = true then 22 else 0
theorem name_ok (s : List UInt8) (hs : s.length ≤ 3000) (H : Heap) : Cl Try.prog pr05 22 [.str s] H fun v H' => v = .int .i64 (nameE s) ∧ H' = H := by
  refine Cl.enter Try.func22 rfl rfl Try.ntmps22 (by simp) ?_
  refine walk none0 ?_
  by_cases h0 : s = []
  · subst h0
    refine walk none0 ?_
    exact ⟨rfl, rfl⟩
  · refine walk h0 ?_
    refine (long_ok s H).mono fun v H1 _ ⟨e1, e2⟩ => ?_
    subst e1; subst e2
    by_cases h1 : 32 < s.length
    · refine walk h1 ?_
      exact ⟨by simp [nameE, h0, h1], rfl⟩
    · refine walk h1 ?_
      by_cases h2 : s = [46]
      · subst h2
        refine walk none0 ?_
        exact ⟨rfl, rfl⟩
      · refine walk h2 ?_
        by_cases h3 : s = [46, 46]
        · subst h3
          refine walk none0 ?_
          exact ⟨rfl, rfl⟩
        · refine walk h3 ?_
          refine (any_ok s hs H1).mono fun v H2 _ ⟨e1, e2⟩ => ?_
          subst e1; subst e2
          by_cases h4 : Lib.containsAny s [47, 0] = true
          · refine walk h4 ?_
            exact ⟨by simp [nameE, h0, h1, h4], rfl⟩
          · refine walk h4 ?_
            exact ⟨by simp [nameE, h0, h1, h2, h3, h4], rfl⟩
theorem any_spec (s : List UInt8) : (Lib.containsAny s [47, 0] = true ↔ ∃ (k : Nat) (x : UInt8), s[k]? = some x ∧ (x = 47 ∨ x = 0)) := by
  have h0 : ∀ s : List UInt8, (0 ≤ Lib.indexAny s [47, 0] ↔ ∃ x ∈ s, (x = 47 ∨ x = 0)) := by
    intro s
    induction s with
    | nil => simp [Lib.indexAny]
    | cons a l ih =>
      simp only [Lib.indexAny, List.contains_cons, List.contains_nil, Bool.or_false, Bool.or_eq_true, beq_iff_eq]
      by_cases h : a = 47 ∨ a = 0
      · rw [if_pos h]
        simp only [Int.le_refl, true_iff]
        exact ⟨a, by simp, h⟩
      · rw [if_neg h]
        have hge := Lib.indexAny_ge [47, 0] l
        have : (∃ x ∈ a :: l, x = 47 ∨ x = 0) ↔ ∃ x ∈ l, x = 47 ∨ x = 0 := by
          constructor
          · rintro ⟨x, hx, hh⟩
            rcases List.mem_cons.1 hx with rfl | hx
            · exact absurd hh h
            · exact ⟨x, hx, hh⟩
          · rintro ⟨x, hx, hh⟩; exact ⟨x, by simp [hx], hh⟩
        rw [this, ← ih]
        split
        · rename_i he; rw [he]
        · rename_i he; omega
  simp only [Lib.containsAny, decide_eq_true_eq]
  rw [h0]
  constructor
  · rintro ⟨x, hx, hh⟩
    obtain ⟨k, hk⟩ := List.mem_iff_getElem?.1 hx
    exact ⟨k, x, hk, hh⟩
  · rintro ⟨k, x, hk, hh⟩
    exact ⟨x, List.mem_of_getElem? hk, hh⟩
theorem u8_ne {x : UInt8} {n : Nat} (hn : n < 256) (h : x ≠ UInt8.ofNat n) : (x.toNat : Int) ≠ n := by
  intro e
  apply h
  apply UInt8.toNat_inj.1
  rw [UInt8.toNat_ofNat_of_lt' (by simpa using hn)]; omega
theorem get_lt' {α : Type} {l : List α} {i : Nat} (h : i < l.length) : ∃ x, l[i]? = some x := ⟨l[i], by simp [h]⟩
theorem refName_ok (s : List UInt8) (hs : s.length ≤ 3000) (H : Heap) : Cl Try.prog pr05 8 [.str s] H fun v H' => v = .int .i64 (nameE s) ∧ H' = H := by
  refine Cl.enter Try.func8 rfl rfl Try.ntmps8 (by simp) ?_
  refine walk none0 ?_
  by_cases h0 : s = []
  · subst h0
    refine walk none0 ?_
    exact ⟨rfl, rfl⟩
  · refine walk h0 ?_
    by_cases h1 : 32 < s.length
    · refine walk h1 ?_
      exact ⟨by simp [nameE, h0, h1], rfl⟩
    · refine walk h1 ?_
      refine Wq.loop (fun m e H' => ∃ i : Nat, i ≤ s.length ∧ m = s.length - i ∧ H' = H ∧ e 0 = .str s ∧ e 3 = .int .i64 i ∧ ∀ (k : Nat) (x : UInt8), s[k]? = some x → k < i → x ≠ 47 ∧ x ≠ 0) s.length ?_ ?_
      · exact ⟨0, by omega, by omega, rfl, by simp, by simp, fun k x _ h => by omega⟩
      · rintro m e H' ⟨i, hi, rfl, rfl, g0, g3, hlo⟩
        by_cases hlt : i < s.length
        · obtain ⟨x, hx⟩ := get_lt' hlt
          by_cases h2 : x = 47
          · subst h2
            refine walk (both g0 (both g3 (both hlt hx))) ?_
            refine ⟨?_, rfl⟩
            have : Lib.containsAny s [47, 0] = true := (any_spec s).2 ⟨i, _, hx, .inl rfl⟩
            simp [nameE, h0, h1, this]
          · by_cases h3 : x = 0
            · subst h3
              refine walk (both g0 (both g3 (both hlt hx))) ?_
              refine ⟨?_, rfl⟩
              have : Lib.containsAny s [47, 0] = true := (any_spec s).2 ⟨i, _, hx, .inr rfl⟩
              simp [nameE, h0, h1, this]
            · have e2 := u8_ne (n := 47) (by omega) h2
              have e3 := u8_ne (n := 0) (by omega) h3
              refine walk (both g0 (both g3 (both hlt (both hx (both e2 e3))))) ?_
              refine Roundq.normal (s.length - (i + 1)) (by omega) ⟨i + 1, by omega, rfl, rfl, by simp [g0], by simp, fun k y hy hky => ?_⟩
              rcases Nat.lt_or_ge k i with h' | h'
              · exact hlo k y hy h'
              · obtain rfl : k = i := by omega
                rw [hx] at hy; cases hy; exact ⟨h2, h3⟩
        · have hno : Lib.containsAny s [47, 0] = false := by
            rw [Bool.eq_false_iff]
            intro h
            obtain ⟨k, x, hk, hx⟩ := (any_spec s).1 h
            have := hlo k x hk (by have := (List.getElem?_eq_some_iff.1 hk).1; omega)
            rcases hx with rfl | rfl
            · exact this.1 rfl
            · exact this.2 rfl
          refine walk (both g0 (both g3 hlt)) ?_
          by_cases h2 : s = [46]
          · subst h2
            refine walk g0 ?_
            exact ⟨rfl, rfl⟩
          · by_cases h3 : s = [46, 46]
            · subst h3
              refine walk g0 ?_
              exact ⟨rfl, rfl⟩
            · refine walk (both g0 (both h2 h3)) ?_
              exact ⟨by simp [nameE, h0, h1, h2, h3, hno], rfl⟩
end Go.Abs

/- Chapter 05: Add, walked. -/
namespace Go.Abs
open Go.Proofs
set_option maxRecDepth 100000
set_option linter.unusedVariables false
set_option linter.unusedSimpArgs false

theorem flatT_takeN : ∀ (l : List EntT) (i : Nat), flat encT (l.take i) = (flat encT l).take (i * 2)
  | [], i => by simp [flat]
  | x :: l, 0 => by simp [flat]
  | x :: l, i + 1 => by
    have := flatT_takeN l i
    simp only [flat, List.take_succ_cons, List.flatMap_cons] at *
    rw [this, List.take_append, encT_len, Nat.add_mul, List.take_of_length_le (l := encT x) (by rw [encT_len]; omega)]
    congr 2
theorem flatT_dropN : ∀ (l : List EntT) (i : Nat), flat encT (l.drop i) = (flat encT l).drop (i * 2)
  | [], i => by simp [flat]
  | x :: l, 0 => by simp [flat]
  | x :: l, i + 1 => by
    have := flatT_dropN l i
    simp only [flat, List.drop_succ_cons, List.flatMap_cons] at *
    rw [this, List.drop_append, encT_len, show List.drop ((i + 1) * 2) (encT x) = [] from List.drop_eq_nil_of_le (by rw [encT_len]; omega)]
    simp only [List.nil_append]
    congr 1
    omega
def insT (l : List EntT) (i : Nat) (x : EntT) : List EntT := l.take i ++ x :: l.drop i
theorem insT_len {l : List EntT} {i : Nat} {x : EntT} (h : i ≤ l.length) : (insT l i x).length = l.length + 1 := by
  unfold insT
  simp
  omega
theorem flat_insT (l : List EntT) (i : Nat) (x : EntT) : flat encT (insT l i x) = (flat encT l).take (i * 2) ++ (encT x ++ (flat encT l).drop (i * 2)) := by
  unfold insT
  rw [flat_app, flatT_takeN, ← flatT_dropN]
  simp [flat]
theorem ins24_ok {H : Heap} {v : AV} {l : List EntT} {i vb : Nat} {x : EntT} (h : OwnG H 57 2 v l.length (flat encT l)) (hn : l.length ≤ 64) (hi : i ≤ l.length) (hv : H.get vb = some (.cells (encT x) 57 true false)) (hvl : vb < H.next) (hne : slBlock v ≠ some vb) (hb : ∀ z, slBlock v = some z → z < H.next) :
    Cl Try.prog pr05 24 [v, .int .i64 i, .slice (some (vb, 0)) 1 1 none] H fun r H' => OwnG H' 57 2 r (l.length + 1) (flat encT (insT l i x)) ∧ ButOne (slBlock v) H H' ∧ (slBlock r = slBlock v ∨ slBlock r = some H.next) ∧ ∀ z, slBlock r = some z → slBlock v = some z ∨ z < H'.next := by
  obtain ⟨a, cap, ex, rfl, hcap, hex⟩ := h.form
  have hx2 : (([AV.str x.1, .int .i64 x.2] : List AV).drop 0).take 2 = encT x := rfl
  have hone : (encT x).all AV.one = true := rfl
  have hcond : a = none → l.length = 0 ∧ cap = 0 := fun e => by
    subst e
    rcases h with ⟨a, e, h1, h2⟩ | ⟨b, o, c, cap', sl, e, _⟩
    · injection e with e1 e2 e3 e4
      exact ⟨h1, e3⟩
    · injection e with e1; cases e1
  by_cases hin : i = l.length
  · subst hin
    obtain ⟨v', H', ha, ho, hbo, hs⟩ := appendA_ownG (bytes := 24) (m := 1) (new := encT x) h (by simp [encT]) hone (by omega) (by omega)
    have hlt := appendA_lt ha
    refine Cl.prim (g := insP) rfl (v := v') (H' := H') ?_ ⟨?_, hbo, hs, hlt⟩
    · unfold insP
      simp only [hv]
      rw [if_pos ⟨by simp [encT], hone, hcap, by omega, hex, hcond⟩, if_pos trivial]
      exact ha
    · have e : insT l l.length x = l ++ [x] := by simp [insT]
      rw [e, flat_app, flat_one]
      exact ho
  · obtain ⟨b, o, c, rfl, g1, g2, g3, g4, g5, g6, g7⟩ := h.at (by omega)
    have hnb : b ≠ vb := fun e => hne (by rw [e]; rfl)
    have hall : ((c.drop o).take (l.length * 2)).all AV.one = true := by rw [g7]; exact flatT_one l
    refine Cl.prim (g := insP) rfl (v := .slice (some (H.next, 0)) (l.length + 1) (l.length + 1) (some 2)) (H' := (H.set b .dead).push (.cells (((c.drop o).take (l.length * 2)).take (i * 2) ++ (encT x ++ ((c.drop o).take (l.length * 2)).drop (i * 2))) 57 true false)) ?_ ⟨?_, ?_, .inr rfl, fun z hz => .inr ?_⟩
    · unfold insP
      simp only [hv]
      rw [if_pos ⟨by simp [encT], hone, hcap, by omega, hex, hcond⟩, if_neg (by omega), if_pos ⟨by omega, by omega⟩]
      simp only [g4]
      rw [if_pos ⟨hnb, g6, g5, hall⟩, Int.toNat_natCast]
      rfl
    · rw [g7, ← flat_insT]
      have hl := flat_len encT_len (insT l i x)
      rw [insT_len hi] at hl
      exact .inr ⟨H.next, 0, flat encT (insT l i x), l.length + 1, some 2, rfl, Nat.le_refl _, .inr rfl, by simp, by simp, by omega, by rw [List.drop_zero, List.take_of_length_le (by omega)]⟩
    · refine ⟨by simp, fun w => push_wf _ (set_wf g3 _ w), fun z hz hne => ?_⟩
      have : z ≠ b := fun e => hne (by rw [e]; rfl)
      rw [Heap.get_push, Heap.next_set, if_neg (by omega), Heap.get_set_ne _ _ this]
    · simp [slBlock] at hz
      subst hz
      simp
end Go.Abs

/- Chapter 05: Add, Set and Remove, walked. -/
namespace Go.Abs
open Go.Proofs
set_option maxRecDepth 100000
set_option linter.unusedVariables false
set_option linter.unusedSimpArgs false

theorem deleteT_ok {H : Heap} {b o cap i : Nat} {ex : Option Nat} {l : List EntT} {c : List AV} (h : OwnG H 57 2 (.slice (some (b, o)) l.length cap ex) l.length (flat encT l)) (hg : H.get b = some (.cells c 57 true false)) (hb : b < H.next) (hi : i < l.length) (hn : l.length ≤ 1000) :
    Cl Try.prog pr05 28 [.slice (some (b, o)) l.length cap ex, .int .i64 i, .int .i64 ((i : Int) + 1)] H fun w H' => w = .slice (some (b, o)) (l.eraseIdx i).length cap ex ∧ Upd (fun z => some b = some z) H H' ∧ OwnG H' 57 2 (.slice (some (b, o)) (l.eraseIdx i).length cap ex) (l.eraseIdx i).length (flat encT (l.eraseIdx i)) := by
  obtain ⟨b', o', c', e, h0, h1, h2, h3, h4, h5, h6⟩ := h.at (by omega)
  simp only [Option.some.injEq, Prod.mk.injEq] at e
  obtain ⟨rfl, rfl⟩ := e
  rw [hg] at h3
  injection h3 with h3; injection h3 with h3 _
  subst h3
  have hf := flat_len encT_len l
  refine Cl.enter Try.func28 rfl rfl Try.ntmps28 (by simp) ?_
  refine walk none0 ?_
  refine Wq.regionD [0, 1, 2, 3, 4, 5, 6, 7] (by kernel_rfl) ?_
  refine walk none0 ?_
  generalize hM : ((l.length : Int) - ((i : Int) + 1)).toNat = M
  generalize hC : ((cap : Int) - ((i : Int) + 1)).toNat = C
  have hMl : M = l.length - (i + 1) := by omega
  have hs := h.sl.sub (k := i + 1) (m := M) (cap' := C) (ex' := ex) (by omega) (by omega) h1
  have hl6 : l.length * 2 = i * 2 + 2 + M * 2 := by omega
  have hl7 : (i + 1) * 2 = i * 2 + 2 := by omega
  have hc6 : i * 2 + M * 2 + 2 ≤ cap * 2 := by omega
  have hsl : ((flat encT l).drop ((i + 1) * 2)).take (M * 2) = (flat encT l).drop ((i + 1) * 2) := List.take_of_length_le (by rw [List.length_drop]; omega)
  rw [hsl] at hs
  refine Oq.appendFit (new := ((flat encT l).drop ((i + 1) * 2))) (m := M) (by simp (disch := omega) [-getElem?_pos, wrapI64, tdivN, tmodN, ipos, ineg, dpos, dneg, slc_l, slc_h, slc_lh, slc_hm, slc_lhm, slc_0, slcR_some, slcR_none, cutS_ok, cutA_ok, byteAt_ok]; first | done | (repeat' (first | rfl | apply And.intro))) ⟨_, rfl, by simp; first | done | (repeat' (first | rfl | apply And.intro))⟩ rfl (by kernel_rfl) (by kernel_rfl) (hb) (hg) (by omega) (by omega) (hs.src') (hs.len) ((List.all_eq_true.2 fun x hx => List.all_eq_true.1 (flatT_one l) x (List.mem_of_mem_drop hx))) fun H1 g1 u1 => ?_
  have u1n := u1.next
  refine walk none0 ?_
  have e1 : ((i : Int) + (M : Int)).toNat = i + M := by omega
  have e2 : ((l.length : Int) - ((i : Int) + (M : Int))).toNat = 1 := by omega
  rw [e1, e2]
  have hA : (c.take (o + i * 2)).length = o + i * 2 := List.length_take_of_le (by omega)
  have hB : ((flat encT l).drop ((i + 1) * 2)).length = M * 2 := hs.len
  have hcl : (c.take (o + i * 2) ++ ((flat encT l).drop ((i + 1) * 2) ++ c.drop (o + i * 2 + M * 2))).length = c.length := by
    rw [List.length_append, List.length_append, hA, hB, List.length_drop]; omega
  generalize hcd : c.take (o + i * 2) ++ ((flat encT l).drop ((i + 1) * 2) ++ c.drop (o + i * 2 + M * 2)) = cd at *
  refine Oq.clearG (b := b) (o := o + (i + M) * 2) (k := 1) (cd := cd) (by simp; first | done | (repeat' (first | rfl | apply And.intro))) ⟨_, rfl, by simp; first | done | (repeat' (first | rfl | apply And.intro))⟩ (by omega) (by omega) g1 (by omega) rfl ?_
  refine walk none0 ?_
  have hlen : (l.eraseIdx i).length = i + M := by rw [List.length_eraseIdx_of_lt hi]; omega
  rw [hlen]
  refine ⟨rfl, Upd.rfl.trans (u1.set _ (by omega) fun _ => rfl) fun z _ e => by rw [e], ?_⟩
  have hcdA : (cd.drop o).take ((i + M) * 2) = flat encT (l.eraseIdx i) := by
    rw [List.eraseIdx_eq_take_drop_succ, flat_app, flatT_takeN, flatT_dropN, ← hcd, List.drop_append_of_le_length (by omega), ← List.append_assoc, List.take_append_of_le_length]
    · rw [List.take_of_length_le (by rw [List.length_append, List.length_drop, hA, hB]; omega), ← h6, List.drop_take, List.take_take, Nat.min_eq_left (by omega)]
      congr 2
      omega
    · rw [List.length_append, List.length_drop, hA, hB]; omega
  have hT : (cd.take (o + (i + M) * 2)).length = o + (i + M) * 2 := List.length_take_of_le (by omega)
  have hfin := OwnG.refill (H' := H1.set b (AObj.cells (List.take (o + (i + M) * 2) cd ++ AV.str [] :: AV.int IntKind.i64 0 :: List.drop (o + (i + M) * 2 + 2) cd) 57 true false)) (elem := 57) (s := 2) (n := i + M) (cap := cap) (o := o) (ex := ex) (b := b) (by omega) h1 (by simp; omega) (Heap.get_set_same _ _ _) (by simp only [List.length_append, List.length_cons, List.length_drop, hT]; omega)
  rw [List.drop_append_of_le_length (by omega), List.take_append_of_le_length (by rw [List.length_drop]; omega), List.drop_take, Nat.add_sub_cancel_left, List.take_take, Nat.min_self, hcdA] at hfin
  exact hfin
end Go.Abs

/- Chapter 05: Add, Set and Remove, walked. -/
namespace Go.Abs
open Go.Proofs
set_option maxRecDepth 100000
set_option linter.unusedVariables false
set_option linter.unusedSimpArgs false

def ActR (H : Heap) (p : Nat) (slv : AV) (l' : List EntT) (H' : Heap) : Prop :=
  ∃ slv', Upd (fun z => z = p ∨ slBlock slv = some z) H H' ∧ DirR H' p slv' l' ∧ ∀ z, slBlock slv' = some z → slBlock slv = some z ∨ H.next ≤ z
theorem ActR.same {H H' : Heap} {p : Nat} {slv : AV} {l : List EntT} (h : DirR H p slv l) (k : Keep H H') : ActR H p slv l H' := ⟨slv, Upd.of k, h.kept k, fun _ h => .inl h⟩
theorem insT_get (l : List EntT) {k : Nat} (x : EntT) (hk : k ≤ l.length) (j : Nat) : (insT l k x)[j]? = if j < k then l[j]? else if j = k then some x else l[j - 1]? := by
  unfold insT
  rw [List.getElem?_append, List.length_take, Nat.min_eq_left hk]
  by_cases h1 : j < k
  · rw [if_pos h1, if_pos h1, List.getElem?_take, if_pos h1]
  · rw [if_neg h1, if_neg h1]
    by_cases h2 : j = k
    · subst h2; simp
    · rw [if_neg h2, show j - k = (j - k - 1) + 1 by omega, List.getElem?_cons_succ, List.getElem?_drop]
      congr 1
      omega
theorem Rising.ins {l : List EntT} {s : Nm8} {k : Nat} {n : Int} (hr : Rising l) (h : Low l s k) (hf : found l s k = false) : Rising (insT l k (s, n)) := by
  have hno := (h.no hr hf).2
  intro i j x y hij hx hy
  rw [insT_get l _ h.le] at hx hy
  by_cases h1 : i < k
  · rw [if_pos h1] at hx
    by_cases h2 : j < k
    · rw [if_pos h2] at hy
      exact hr i j x y hij hx hy
    · rw [if_neg h2] at hy
      by_cases h3 : j = k
      · rw [if_pos h3] at hy
        injection hy with hy
        rw [← hy]
        exact h.lo i x h1 hx
      · rw [if_neg h3] at hy
        exact hr i (j - 1) x y (by omega) hx hy
  · rw [if_neg h1] at hx
    rw [if_neg (by omega : ¬ j < k), if_neg (by omega : ¬ j = k)] at hy
    by_cases h3 : i = k
    · rw [if_pos h3] at hx
      injection hx with hx
      rw [← hx]
      exact hno (j - 1) y (by omega) hy
    · rw [if_neg h3] at hx
      exact hr (i - 1) (j - 1) x y (by omega) hx hy
def addE (l : List EntT) (s : Nm8) (n : Int) : Int := if nameE s ≠ 0 then nameE s else if n < 1 then 22 else if 0 < findT l s then 17 else if 64 ≤ l.length then 28 else 0
def AddS (l : List EntT) (s : Nm8) (n : Int) (l' : List EntT) : Prop := (addE l s n ≠ 0 ∧ l' = l) ∨ (addE l s n = 0 ∧ ∃ k, Low l s k ∧ found l s k = false ∧ l' = insT l k (s, n))
set_option maxHeartbeats 1000000 in
theorem Add10_ok {H : Heap} {p : Nat} {slv : AV} {l : List EntT} (h : DirR H p slv l) (s : Nm8) (hs : s.length ≤ 3000) (n : Int) : Cl Try.prog pr05 10 [.ptr (some (p, 0)), .str s, .int .i64 n] H fun r H' => ∃ l', r = .int .i64 (addE l s n) ∧ AddS l s n l' ∧ ActR H p slv l' H' := by
  have hfew := h.few
  refine Cl.enter Try.func10 rfl rfl Try.ntmps10 (by simp) ?_
  refine walk none0 ?_
  refine (name_ok s hs H).mono fun r H0 _ ⟨ea, eb⟩ => ?_
  subst ea; subst eb
  by_cases he : nameE s = 0
  · rw [he]
    refine walk none0 ?_
    refine (at23_ok h s).mono fun r H1 _ ⟨k1, k, hL, ea⟩ => ?_
    subst ea
    have h1 := h.kept k1
    have hg := h1.g
    by_cases hn : n < 1
    · have hE : addE l s n = 22 := by unfold addE; rw [if_neg (by simp [he]), if_pos hn]
      refine walk hn ?_
      exact ⟨l, by rw [hE], .inl ⟨by rw [hE]; decide, rfl⟩, ActR.same h k1⟩
    · cases hf : found l s k with
      | true =>
        obtain ⟨m, hx, hfn⟩ := hL.yes h.up hf
        have hm := h.pos _ (List.mem_of_getElem? hx)
        have hE : addE l s n = 17 := by unfold addE; rw [if_neg (by simp [he]), if_neg hn, hfn, if_pos hm]
        refine walk hn ?_
        exact ⟨l, by rw [hE], .inl ⟨by rw [hE]; decide, rfl⟩, ActR.same h k1⟩
      | false =>
        have hz := findT_no (hL.no h.up hf).1
        have hb0 := h1.bl
        have hap := h1.ap
        have hplt := h1.lt
        obtain ⟨a, cap, ex, hslv, hcap, hex⟩ := h1.own.form
        by_cases h64 : 64 ≤ l.length
        · have h64I : 64 ≤ (l.length : Int) := by omega
          have hE : addE l s n = 28 := by unfold addE; rw [if_neg (by simp [he]), if_neg hn, hz, if_neg (by omega), if_pos h64]
          subst hslv
          refine walk (both hn (both hg h64I)) ?_
          exact ⟨l, by rw [hE], .inl ⟨by rw [hE]; decide, rfl⟩, ActR.same h k1⟩
        · have h64I : ¬ 64 ≤ (l.length : Int) := by omega
          have hE : addE l s n = 0 := by unfold addE; rw [if_neg (by simp [he]), if_neg hn, hz, if_neg (by omega), if_neg h64]
          have kB : Keep H1 (H1.push (.cells (encT (s, n)) 57 true false)) := Upd.rfl.push _
          have h2 := h1.kept kB
          have hins := ins24_ok (x := (s, n)) (i := k) (vb := H1.next) h2.own h2.few hL.le (by simp) (by simp) (fun e => by have := h1.bl _ e; omega) h2.bl
          have hup := h1.up.ins (n := n) hL hf
          have hg2 := h2.g
          subst hslv
          unfold encT at hins kB hg2 h2
          simp only [] at hins kB hg2 h2
          refine walk (both hn (both hg h64I)) ?_
          refine hins.mono fun r H3 _ ⟨ho, hbo, hr, hlt⟩ => ?_
          obtain ⟨ra, rc, rx, rfl, _⟩ := ho.form
          have hg3 : H3.get p = some (.cells [.slice a l.length cap ex] 54 true false) := (hbo.2.2 p h2.lt (fun e => hap e.symm)).trans hg2
          have hn3 := hbo.1
          simp only [Heap.next_push] at hn3
          refine walk hg3 ?_
          have hrn : ∀ z, slBlock (AV.slice ra (l.length + 1) rc rx) = some z → slBlock (AV.slice a l.length cap ex) = some z ∨ H1.next ≤ z := fun z hz => by
            rcases hr with e | e
            · exact .inl (e ▸ hz)
            · rw [e] at hz; injection hz with hz; simp at hz; exact .inr (by omega)
          have hpn : slBlock (AV.slice ra (l.length + 1) rc rx) ≠ some p := fun e => by
            rcases hrn p e with g | g
            · exact hap g
            · omega
          refine ⟨insT l k (s, n), by rw [hE], .inr ⟨hE, k, hL, hf, rfl⟩, .slice ra (l.length + 1) rc rx, ?_, ⟨Heap.get_set_same _ _ _, ?_, by simp; omega, hpn, fun z hz => ?_, hup, by rw [insT_len hL.le]; omega, fun x hx => ?_⟩, fun z hz => ?_⟩
          · have u3 : Upd (fun z => slBlock (AV.slice a l.length cap ex) = some z) H1 H3 := (Upd.of kB).butOne hbo fun z hz _ => hz
            exact ((Upd.of k1).trans u3 fun z _ h => .inr h).set _ (by omega) fun _ => .inl rfl
          · rw [insT_len hL.le]
            refine ho.keep (by simp) fun z hz _ => Heap.get_set_ne _ _ fun e => hpn (by rw [← e]; exact hz)
          · simp
            rcases hlt z hz with g | g
            · have := hb0 z g; omega
            · exact g
          · unfold insT at hx
            rw [List.mem_append, List.mem_cons] at hx
            rcases hx with hx | rfl | hx
            · exact h.pos x (List.mem_of_mem_take hx)
            · simp only []; omega
            · exact h.pos x (List.mem_of_mem_drop hx)
          · rcases hrn z hz with g | g
            · exact .inl g
            · exact .inr (by have := k1.next; omega)
  · have hE : addE l s n = nameE s := by unfold addE; rw [if_pos he]
    refine walk he ?_
    exact ⟨l, by rw [hE], .inl ⟨by rw [hE]; exact he, rfl⟩, ActR.same h Upd.rfl⟩
end Go.Abs

/- Chapter 05: Set and Remove, walked. -/
namespace Go.Abs
open Go.Proofs
set_option maxRecDepth 100000
set_option linter.unusedVariables false
set_option linter.unusedSimpArgs false

def SetS (l : List EntT) (s : Nm8) (n : Int) (l' : List EntT) (old e : Int) : Prop :=
  (n < 1 ∧ l' = l ∧ old = 0 ∧ e = 22) ∨ (1 ≤ n ∧ findT l s = 0 ∧ l' = l ∧ old = 0 ∧ e = 2) ∨ (1 ≤ n ∧ 0 < findT l s ∧ old = findT l s ∧ e = 0 ∧ ∃ k, l[k]? = some (s, findT l s) ∧ l' = l.set k (s, n))
def RemS (l : List EntT) (s : Nm8) (l' : List EntT) (old e : Int) : Prop :=
  (findT l s = 0 ∧ l' = l ∧ old = 0 ∧ e = 2) ∨ (0 < findT l s ∧ old = findT l s ∧ e = 0 ∧ ∃ k, l[k]? = some (s, findT l s) ∧ l' = l.eraseIdx k)
theorem flat_setT {l : List EntT} {i : Nat} {s : Nm8} {n m : Int} (hx : l[i]? = some (s, n)) : (flat encT l).set (i * 2 + 1) (.int .i64 m) = flat encT (l.set i (s, m)) := by
  induction l generalizing i with
  | nil => simp at hx
  | cons a l ih =>
    cases i with
    | zero =>
      simp at hx; subst hx
      simp [flat, encT]
    | succ i =>
      have := ih (i := i) (by simpa using hx)
      simp only [flat, List.flatMap_cons, List.set_cons_succ] at this ⊢
      rw [List.set_append_right _ _ (by rw [encT_len]; omega), ← this, encT_len]
      congr 2
      omega
theorem Rising.set {l : List EntT} {k : Nat} {s : Nm8} {n m : Int} (hr : Rising l) (hx : l[k]? = some (s, n)) : Rising (l.set k (s, m)) := by
  have hk := (List.getElem?_eq_some_iff.1 hx).1
  have key : ∀ (i : Nat) (x : EntT), (l.set k (s, m))[i]? = some x → ∃ y, l[i]? = some y ∧ y.1 = x.1 := fun i x h => by
    by_cases e : k = i
    · subst e
      rw [List.getElem?_set_self hk] at h
      injection h with h
      exact ⟨_, hx, by rw [← h]⟩
    · rw [List.getElem?_set_ne e] at h
      exact ⟨x, h, rfl⟩
  intro i j x y hij hx hy
  obtain ⟨x', hx', ex⟩ := key i x hx
  obtain ⟨y', hy', ey⟩ := key j y hy
  rw [← ex, ← ey]
  exact hr i j x' y' hij hx' hy'
theorem Rising.erase {l : List EntT} {k : Nat} (hr : Rising l) : Rising (l.eraseIdx k) := by
  have key : ∀ (i : Nat) (x : EntT), (l.eraseIdx k)[i]? = some x → l[if i < k then i else i + 1]? = some x := fun i x h => by
    rw [List.getElem?_eraseIdx] at h
    split at h
    · rename_i h1; rw [if_pos h1]; exact h
    · rename_i h1; rw [if_neg h1]; exact h
  intro i j x y hij hx hy
  refine hr _ _ x y ?_ (key i x hx) (key j y hy)
  split <;> split <;> omega
theorem Set20_ok {H : Heap} {p : Nat} {slv : AV} {l : List EntT} (h : DirR H p slv l) (s : Nm8) (n : Int) : Cl Try.prog pr05 20 [.ptr (some (p, 0)), .str s, .int .i64 n] H fun r H' => ∃ l' old e, r = .tuple [.int .i64 old, .int .i64 e] ∧ SetS l s n l' old e ∧ ActR H p slv l' H' := by
  have hfew := h.few
  refine Cl.enter Try.func20 rfl rfl Try.ntmps20 (by simp) ?_
  by_cases hn : n < 1
  · refine walk hn ?_
    exact ⟨l, 0, 22, rfl, .inl ⟨hn, rfl, rfl, rfl⟩, ActR.same h Upd.rfl⟩
  · refine walk hn ?_
    refine (at23_ok h s).mono fun r H1 _ ⟨k1, k, hL, ea⟩ => ?_
    subst ea
    cases hf : found l s k with
    | false =>
      have hz := findT_no (hL.no h.up hf).1
      refine walk none0 ?_
      exact ⟨l, 0, 2, rfl, .inr (.inl ⟨by omega, hz, rfl, rfl, rfl⟩), ActR.same h k1⟩
    | true =>
      obtain ⟨m, hx, hfn⟩ := hL.yes h.up hf
      have hm := h.pos _ (List.mem_of_getElem? hx)
      have h1 := h.kept k1
      have hg := h1.g
      have hap := h1.ap
      have hblt := h1.bl
      have hplt := h1.lt
      have hk := (List.getElem?_eq_some_iff.1 hx).1
      have hkI : (k : Int) < l.length := by omega
      have hup := h.up.set (m := n) hx
      obtain ⟨a, cap, ex, rfl, hcap, hex⟩ := h1.own.form
      obtain ⟨b, o, c, rfl, w1, w2, w3, w4, w5, w6, w7⟩ := h1.own.at (by omega)
      have q3a : o + k * 2 + 1 < c.length := by omega
      have q6 : c[o + k * 2 + 1]? = some (.int .i64 m) := by
        have := sub_get (i := k * 2 + 1) w7 (by omega)
        rw [flat_get encT_len hx (by decide)] at this
        simpa [encT, Nat.add_assoc] using this
      have hpb : p ≠ b := fun e => hap (by rw [e]; rfl)
      have hown := OwnG.refill (H' := H1.set b (.cells (c.set (o + k * 2 + 1) (.int .i64 n)) 57 true false)) (elem := 57) (s := 2) (n := l.length) (cap := cap) (ex := ex) w1 w2 (by simpa using w3) (Heap.get_set_same _ _ _) (by rw [List.length_set]; exact w5)
      rw [show o + k * 2 + 1 = o + (k * 2 + 1) by omega, set_sub w7 (by omega), flat_setT hx] at hown
      refine walk (both hg (both hk (both hkI (both w4 (both q3a q6))))) ?_
      refine ⟨l.set k (s, n), _, _, rfl, .inr (.inr ⟨by omega, by rw [hfn]; exact hm, hfn.symm, rfl, k, by rw [hfn]; exact hx, rfl⟩), .slice (some (b, o)) l.length cap ex, ((Upd.of k1).set _ w3 fun _ => .inr rfl), ⟨?_, ?_, by simpa using hplt, hap, fun z hz => by simpa using hblt z hz, hup, by rw [List.length_set]; exact hfew, fun x hx => ?_⟩, fun z hz => .inl hz⟩
      · rw [Heap.get_set_ne _ _ hpb]; exact hg
      · rw [List.length_set]
        exact hown
      · rcases List.mem_or_eq_of_mem_set hx with g | g
        · exact h.pos x g
        · rw [g]; simp only []; omega
theorem Remove21_ok {H : Heap} {p : Nat} {slv : AV} {l : List EntT} (h : DirR H p slv l) (s : Nm8) : Cl Try.prog pr05 21 [.ptr (some (p, 0)), .str s] H fun r H' => ∃ l' old e, r = .tuple [.int .i64 old, .int .i64 e] ∧ RemS l s l' old e ∧ ActR H p slv l' H' := by
  have hfew := h.few
  refine Cl.enter Try.func21 rfl rfl Try.ntmps21 (by simp) ?_
  refine walk none0 ?_
  refine (at23_ok h s).mono fun r H1 _ ⟨k1, k, hL, ea⟩ => ?_
  subst ea
  cases hf : found l s k with
  | false =>
    have hz := findT_no (hL.no h.up hf).1
    refine walk none0 ?_
    exact ⟨l, 0, 2, rfl, .inl ⟨hz, rfl, rfl, rfl⟩, ActR.same h k1⟩
  | true =>
    obtain ⟨m, hx, hfn⟩ := hL.yes h.up hf
    have hm := h.pos _ (List.mem_of_getElem? hx)
    have h1 := h.kept k1
    have hg := h1.g
    have hap := h1.ap
    have hblt := h1.bl
    have hplt := h1.lt
    have hk := (List.getElem?_eq_some_iff.1 hx).1
    have hkI : (k : Int) < l.length := by omega
    obtain ⟨a, cap, ex, rfl, hcap, hex⟩ := h1.own.form
    obtain ⟨b, o, c, rfl, w1, w2, w3, w4, w5, w6, w7⟩ := h1.own.at (by omega)
    have q3a : o + k * 2 + 1 < c.length := by omega
    have q6 : c[o + k * 2 + 1]? = some (.int .i64 m) := by
      have := sub_get (i := k * 2 + 1) w7 (by omega)
      rw [flat_get encT_len hx (by decide)] at this
      simpa [encT, Nat.add_assoc] using this
    have hpb : p ≠ b := fun e => hap (by rw [e]; rfl)
    refine walk (both hg (both hk (both hkI (both w4 (both q3a q6))))) ?_
    refine (deleteT_ok h1.own w4 w3 hk (by omega)).mono fun r H2 _ ⟨ea, u2, ho⟩ => ?_
    subst ea
    have hg2 : H2.get p = some (.cells [.slice (some (b, o)) l.length cap ex] 54 true false) := (u2.keep p hplt (fun e => hpb (by injection e with e; exact e.symm))).trans hg
    have hn2 := u2.next
    refine walk hg2 ?_
    refine ⟨l.eraseIdx k, _, _, rfl, .inr ⟨by rw [hfn]; exact hm, hfn.symm, rfl, k, by rw [hfn]; exact hx, rfl⟩, .slice (some (b, o)) (l.eraseIdx k).length cap ex, ?_, ⟨Heap.get_set_same _ _ _, ?_, by simp; omega, hap, fun z hz => ?_, h.up.erase, ?_, fun x hx => h.pos x (List.mem_of_mem_eraseIdx hx)⟩, fun z hz => .inl hz⟩
    · exact ((Upd.of k1).trans u2 fun z _ h => .inr h).set _ (by omega) fun _ => .inl rfl
    · exact ho.keep (by simp) fun z hz _ => Heap.get_set_ne _ _ fun e => hap (by rw [← e]; exact hz)
    · have := hblt z hz
      simp
      omega
    · rw [List.length_eraseIdx]
      split <;> omega
end Go.Abs

/- Chapter 05: the reference's Find, Set, Remove and Add, walked. -/
namespace Go.Abs
open Go.Proofs
set_option maxRecDepth 100000
set_option linter.unusedVariables false
set_option linter.unusedSimpArgs false

structure RefE (H : Heap) (v : AV) (L : List EntT) : Prop where
  sl : Sl H 2 v L.length (flat encT L)
  bl : ∀ z, slBlock v = some z → z < H.next
  few : L.length ≤ 64
  uq : ∀ (i j : Nat) (x y : EntT), L[i]? = some x → L[j]? = some y → x.1 = y.1 → i = j
  pos : ∀ x ∈ L, 0 < x.2
theorem RefE.upd {H H' : Heap} {v : AV} {L : List EntT} {fp : Nat → Prop} (h : RefE H v L) (u : Upd fp H H') (hd : ∀ z, slBlock v = some z → ¬ fp z) : RefE H' v L :=
  ⟨h.sl.upd u fun z hz _ => hd z hz, fun z hz => by have := h.bl z hz; have := u.next; omega, h.few, h.uq, h.pos⟩
theorem RefE.kept {H H' : Heap} {v : AV} {L : List EntT} (h : RefE H v L) (k : Keep H H') : RefE H' v L := h.upd k fun _ _ h => h
theorem RefE.form {H : Heap} {v : AV} {L : List EntT} (h : RefE H v L) : ∃ a cap ex, v = .slice a L.length cap ex ∧ L.length ≤ cap ∧ (ex = none ∨ ex = some 2) := h.sl.form
theorem findT_pos {L : List EntT} (hp : ∀ x ∈ L, 0 < x.2) {s : Nm8} : 0 ≤ findT L s ∧ (0 < findT L s → ∃ k : Nat, L[k]? = some (s, findT L s)) := by
  induction L with
  | nil => exact ⟨by simp [findT], fun h => by simp [findT] at h⟩
  | cons a L ih =>
    obtain ⟨t, n⟩ := a
    have hn := hp (t, n) (by simp)
    simp only [] at hn
    by_cases e : t = s
    · subst e
      simp only [findT, if_true]
      exact ⟨by omega, fun _ => ⟨0, by simp⟩⟩
    · simp only [findT, if_neg e]
      obtain ⟨h1, h2⟩ := ih fun x hx => hp x (by simp [hx])
      refine ⟨h1, fun h => ?_⟩
      obtain ⟨k, hk⟩ := h2 h
      exact ⟨k + 1, by simpa using hk⟩
theorem refFind17_ok {H : Heap} {v : AV} {L : List EntT} (h : RefE H v L) (s : Nm8) : Cl Try.prog pr05 17 [v, .str s] H fun r H' => r = .int .i64 (findT L s) ∧ H' = H := by
  obtain ⟨va, cap, ex, rfl, hc, hex⟩ := h.form
  have hfew := h.few
  obtain ⟨N, hN⟩ : ∃ N, N = L.length := ⟨_, rfl⟩
  refine Cl.enter Try.func17 rfl rfl Try.ntmps17 (by simp) ?_
  refine walk none0 ?_
  rw [← hN]
  refine Wq.loop (fun m e H' => ∃ i : Nat, i ≤ N ∧ m = N - i ∧ H' = H ∧ e 0 = .slice va N cap ex ∧ e 1 = .str s ∧ e 5 = .int .i64 i ∧ findT L s = findT (L.drop i) s) N ?_ ?_
  · exact ⟨0, by omega, by omega, rfl, by simp, by simp, by simp, by simp⟩
  · rintro m e H' ⟨i, hi, rfl, rfl, g0, g1, g5, hfi⟩
    by_cases hlt : i < N
    · obtain ⟨t, n, hx⟩ := geti_ltT (l := L) (i := i) (by omega)
      have hltI : (i : Int) < N := by omega
      have hS := h.sl
      rw [hN] at g0
      obtain ⟨b, o, c, ty, w, mk, rfl, q1, q2, q3, q4, q5, q6⟩ := ent_at hS hx
      rw [← hN] at g0
      have q3a : o + i * 2 < c.length := by omega
      have q3b : o + i * 2 + 1 < c.length := by omega
      have hdr : L.drop i = (t, n) :: L.drop (i + 1) := by
        have hi' := (List.getElem?_eq_some_iff.1 hx).1
        rw [List.drop_eq_getElem_cons hi']
        rw [List.getElem?_eq_getElem hi'] at hx
        injection hx with hx
        rw [hx]
      rw [hdr] at hfi
      by_cases he : t = s
      · subst he
        simp only [findT, if_true] at hfi
        refine walk (both g0 (both g1 (both g5 (both hlt (both hltI (both q2 (both q3a (both q3b (both q5 q6))))))))) ?_
        exact ⟨by rw [hfi], rfl⟩
      · simp only [findT, if_neg he] at hfi
        refine walk (both g0 (both g1 (both g5 (both hlt (both hltI (both q2 (both q3a (both q5 he)))))))) ?_
        exact Roundq.normal (N - (i + 1)) (by omega) ⟨i + 1, by omega, rfl, rfl, by simp [g0], by simp [g1], by simp, hfi⟩
    · obtain rfl : i = N := by omega
      have hltI : ¬ (i : Int) < i := by omega
      rw [List.drop_of_length_le (by omega)] at hfi
      refine walk (both g0 (both g1 g5)) ?_
      exact ⟨by rw [hfi]; rfl, rfl⟩
def updT (s : Nm8) (n : Int) (x : EntT) : EntT := if x.1 = s then (x.1, n) else x
theorem updT_map {L : List EntT} {s : Nm8} {n m : Int} {k : Nat} (hu : ∀ (i j : Nat) (x y : EntT), L[i]? = some x → L[j]? = some y → x.1 = y.1 → i = j) (hk : L[k]? = some (s, m)) : L.map (updT s n) = L.set k (s, n) := by
  have hkl := (List.getElem?_eq_some_iff.1 hk).1
  apply List.ext_getElem?
  intro i
  rw [List.getElem?_map]
  by_cases e : k = i
  · subst e
    rw [hk, List.getElem?_set_self hkl]
    simp [updT]
  · rw [List.getElem?_set_ne e]
    cases hx : L[i]? with
    | none => rfl
    | some x =>
      have hne : x.1 ≠ s := fun h => e (hu k i (s, m) x hk hx h.symm)
      simp [updT, hne]
set_option maxHeartbeats 1000000 in
theorem refSet25_ok {H : Heap} {v : AV} {L : List EntT} (h : RefE H v L) (s : Nm8) (n : Int) : Cl Try.prog pr05 25 [v, .str s, .int .i64 n] H fun r H' => Keep H H' ∧ ∃ v' L' old e, r = .tuple [v', .int .i64 old, .int .i64 e] ∧ SetS L s n L' old e ∧ RefE H' v' L' ∧ ∀ z, slBlock v' = some z → slBlock v = some z ∨ H.next ≤ z := by
  have hfind := refFind17_ok h s
  obtain ⟨f1, f2⟩ := findT_pos (s := s) h.pos
  obtain ⟨va, cap, ex, rfl, hc, hex⟩ := h.form
  have hfew := h.few
  refine Cl.enter Try.func25 rfl rfl Try.ntmps25 (by simp) ?_
  by_cases hn : n < 1
  · refine walk hn ?_
    exact ⟨Upd.rfl, _, L, 0, 22, rfl, .inl ⟨hn, rfl, rfl, rfl⟩, h, fun z hz => .inl hz⟩
  · refine walk hn ?_
    refine hfind.mono fun r H1 _ ⟨ea, eb⟩ => ?_
    subst ea; subst eb
    by_cases hz : findT L s = 0
    · refine walk hz ?_
      exact ⟨Upd.rfl, _, L, 0, 2, rfl, .inr (.inl ⟨by omega, hz, rfl, rfl, rfl⟩), h, fun z hz => .inl hz⟩
    · obtain ⟨k, hk⟩ := f2 (by omega)
      have hmap := updT_map (n := n) h.uq hk
      refine walk hz ?_
      refine Oq.appendG (own := (.empty _)) (new := flat encT L) (m := L.length) (by simp (disch := omega) [-getElem?_pos, wrapI64, tdivN, tmodN, ipos, ineg, dpos, dneg, slc_l, slc_h, slc_lh, slc_hm, slc_lhm, slc_0, slcR_some, slcR_none, cutS_ok, cutA_ok, byteAt_ok]; first | done | (repeat' (first | rfl | apply And.intro))) ⟨_, rfl, by simp; first | done | (repeat' (first | rfl | apply And.intro))⟩ rfl (by kernel_rfl) (by kernel_rfl) ((Sl.push h.sl _).src') (flat_len encT_len L) (flatT_one L) (by omega) (by omega) fun w1 H2 o1 b1 s1 => ?_
      rw [Nat.zero_add, List.nil_append] at o1
      have f1' : FreshG H1 H2 64 2 w1 L.length (flat encT L) := (FreshG.made (H0 := H1) (cs := []) (n := 0) (elem := 64) (s := 2) (Upd.rfl.push _) (by simp) (b := H1.next) (by omega) (by simp) (by simp)).app o1 b1 s1
      obtain ⟨wa, wc, wx, rfl, _⟩ := o1.form
      obtain ⟨N, hN⟩ : ∃ N, N = L.length := ⟨_, rfl⟩
      refine walk none0 ?_
      rw [← hN] at f1' ⊢
      refine Wq.loop (fun m e H' => ∃ (i : Nat), i ≤ N ∧ m = N - i ∧ e 1 = .str s ∧ e 2 = .int .i64 n ∧ e 9 = .int .i64 (findT L s) ∧ e 10 = .slice wa N wc wx ∧ e 11 = .int .i64 i ∧ FreshG H1 H' 64 2 (.slice wa N wc wx) N (flat encT ((L.take i).map (updT s n) ++ L.drop i))) N ?_ ?_
      · exact ⟨0, by omega, by omega, by simp, by simp, by simp, by simp, by simp, by simpa using f1'⟩
      · rintro m e H' ⟨i, hi, rfl, g1, g2, g9, g10, g11, hF⟩
        by_cases hlt : i < N
        · obtain ⟨t, q, hx⟩ := geti_ltT (l := L) (i := i) (by omega)
          have hltI : (i : Int) < N := by omega
          have hiL := (List.getElem?_eq_some_iff.1 hx).1
          have hMl : ((L.take i).map (updT s n) ++ L.drop i).length = N := by simp; omega
          have hMx : ((L.take i).map (updT s n) ++ L.drop i)[i]? = some (t, q) := by
            rw [List.getElem?_append_right (by simp; omega), List.length_map, List.length_take, Nat.min_eq_left (by omega), Nat.sub_self, List.getElem?_drop, Nat.add_zero]
            exact hx
          have hnext : ((L.take (i + 1)).map (updT s n) ++ L.drop (i + 1)) = ((L.take i).map (updT s n) ++ L.drop i).set i (updT s n (t, q)) := by
            rw [List.set_append_right _ _ (by simp; omega), List.length_map, List.length_take, Nat.min_eq_left (by omega), Nat.sub_self, List.take_add_one, hx]
            have hdr : L.drop i = (t, q) :: L.drop (i + 1) := by
              rw [List.drop_eq_getElem_cons hiL]
              rw [List.getElem?_eq_getElem hiL] at hx
              injection hx with hx
              rw [hx]
            rw [hdr, List.set_cons_zero, List.map_append]
            simp
          obtain ⟨b, o, c, e1, w1, w2, w3, w4, w5, w6, w7⟩ := hF.own.at (by omega)
          subst e1
          have w8 := hF.new b rfl
          have q3a : o + i * 2 < c.length := by omega
          have q3b : o + i * 2 + 1 < c.length := by omega
          have q5 : c[o + i * 2]? = some (.str t) := by
            have := sub_get (i := i * 2) w7 (by omega)
            rw [show i * 2 = i * 2 + 0 by omega, flat_get encT_len hMx (by decide)] at this
            simpa [encT] using this
          by_cases he : t = s
          · subst he
            have hu2 : updT t n (t, q) = (t, n) := by simp [updT]
            rw [hu2] at hnext
            have hown := OwnG.refill (H' := H'.set b (.cells (c.set (o + i * 2 + 1) (.int .i64 n)) 64 true false)) (elem := 64) (s := 2) (n := N) (cap := wc) (ex := wx) w1 w2 (by simpa using w3) (Heap.get_set_same _ _ _) (by rw [List.length_set]; exact w5)
            rw [show o + i * 2 + 1 = o + (i * 2 + 1) by omega, set_sub w7 (by omega), flat_setT hMx, ← hnext] at hown
            refine walk (both g1 (both g2 (both g9 (both g10 (both g11 (both hlt (both hltI (both w4 (both q3a (both q3b q5)))))))))) ?_
            exact Roundq.normal (N - (i + 1)) (by omega) ⟨i + 1, by omega, rfl, by simp [g1], by simp [g2], by simp [g9], by simp [g10], by simp, hown, hF.keep.set _ w3 (by omega), hF.new⟩
          · have hu2 : updT s n (t, q) = (t, q) := by simp [updT, he]
            rw [hu2] at hnext
            have hself : ((L.take i).map (updT s n) ++ L.drop i).set i (t, q) = (L.take i).map (updT s n) ++ L.drop i := by
              apply List.ext_getElem?
              intro j
              by_cases e : i = j
              · subst e; rw [List.getElem?_set_self (by omega), hMx]
              · rw [List.getElem?_set_ne e]
            rw [hself] at hnext
            refine walk (both g1 (both g2 (both g9 (both g10 (both g11 (both hlt (both hltI (both w4 (both q3a (both q5 he)))))))))) ?_
            exact Roundq.normal (N - (i + 1)) (by omega) ⟨i + 1, by omega, rfl, by simp [g1], by simp [g2], by simp [g9], by simp [g10], by simp, by rw [hnext]; exact hF⟩
        · obtain rfl : i = N := by omega
          have hltI : ¬ (i : Int) < i := by omega
          have hfin : (L.take i).map (updT s n) ++ L.drop i = L.set k (s, n) := by
            rw [List.take_of_length_le (by omega), List.drop_of_length_le (by omega), List.append_nil, hmap]
          rw [hfin] at hF
          have hsl := hF.own.sl
          have hkL := (List.getElem?_eq_some_iff.1 hk).1
          refine walk (both g1 (both g2 (both g9 (both g10 g11)))) ?_
          refine ⟨hF.keep, _, L.set k (s, n), _, 0, rfl, .inr (.inr ⟨by omega, by omega, rfl, rfl, k, hk, rfl⟩), ⟨by rw [List.length_set, ← hN]; exact hsl, fun z hz => ?_, by rw [List.length_set]; exact hfew, fun i j x y hx hy e => ?_, fun x hx => ?_⟩, fun z hz => .inr (hF.new z hz)⟩
          · rcases hF.own with ⟨a, e, h0, _⟩ | ⟨b, o, c, cap', sl, e, h0, h1, h2, _⟩
            · omega
            · injection e with e1
              subst e1
              simp [slBlock] at hz
              subst hz
              exact h2
          · have key : ∀ (i : Nat) (x : EntT), (L.set k (s, n))[i]? = some x → ∃ y, L[i]? = some y ∧ y.1 = x.1 := fun i x h => by
              by_cases e : k = i
              · subst e
                rw [List.getElem?_set_self hkL] at h
                injection h with h
                exact ⟨_, hk, by rw [← h]⟩
              · rw [List.getElem?_set_ne e] at h
                exact ⟨x, h, rfl⟩
            obtain ⟨x', hx', ex'⟩ := key i x hx
            obtain ⟨y', hy', ey'⟩ := key j y hy
            exact h.uq i j x' y' hx' hy' (by rw [ex', ey', e])
          · rcases List.mem_or_eq_of_mem_set hx with g | g
            · exact h.pos x g
            · rw [g]; simp only []; omega
end Go.Abs

/- Chapter 05: the reference's Remove and Add, walked. -/
namespace Go.Abs
open Go.Proofs
set_option maxRecDepth 100000
set_option linter.unusedVariables false
set_option linter.unusedSimpArgs false

theorem findT_snoc_ne {s t : Nm8} {n : Int} (h : t ≠ s) : ∀ A : List EntT, findT (A ++ [(t, n)]) s = findT A s
  | [] => by simp [findT, h]
  | (u, m) :: A => by
    simp only [List.cons_append, findT]
    rw [findT_snoc_ne h A]
theorem findT_snoc_eq {s : Nm8} {n : Int} : ∀ {A : List EntT}, (∀ x ∈ A, x.1 ≠ s) → findT (A ++ [(s, n)]) s = n
  | [], _ => by simp [findT]
  | (u, m) :: A, h => by
    simp only [List.cons_append, findT, if_neg (h (u, m) (by simp))]
    exact findT_snoc_eq fun x hx => h x (by simp [hx])
def keepT (s : Nm8) (x : EntT) : Bool := !decide (x.1 = s)
theorem filter_erase {L : List EntT} {s : Nm8} {m : Int} {k : Nat} (hu : ∀ (i j : Nat) (x y : EntT), L[i]? = some x → L[j]? = some y → x.1 = y.1 → i = j) (hk : L[k]? = some (s, m)) : L.filter (keepT s) = L.eraseIdx k := by
  have hkl := (List.getElem?_eq_some_iff.1 hk).1
  have hne : ∀ (i : Nat) (x : EntT), i ≠ k → L[i]? = some x → keepT s x = true := fun i x hi hx => by
    have : x.1 ≠ s := fun e => hi (hu i k x (s, m) hx hk e)
    simp [keepT, this]
  have hL : L = L.take k ++ (s, m) :: L.drop (k + 1) := by
    have hd := List.drop_eq_getElem_cons hkl
    rw [List.getElem?_eq_getElem hkl] at hk
    injection hk with hk
    rw [hk] at hd
    rw [← hd, List.take_append_drop]
  have h1 : (L.take k).filter (keepT s) = L.take k := List.filter_eq_self.2 fun x hx => by
    obtain ⟨i, hi⟩ := List.mem_iff_getElem?.1 hx
    rw [List.getElem?_take] at hi
    split at hi
    · exact hne i x (by omega) hi
    · cases hi
  have h2 : (L.drop (k + 1)).filter (keepT s) = L.drop (k + 1) := List.filter_eq_self.2 fun x hx => by
    obtain ⟨i, hi⟩ := List.mem_iff_getElem?.1 hx
    rw [List.getElem?_drop] at hi
    exact hne _ x (by omega) hi
  have h3 : keepT s (s, m) = false := by simp [keepT]
  rw [List.eraseIdx_eq_take_drop_succ]
  conv => lhs; rw [hL, List.filter_append, List.filter_cons, h3]
  simp only [Bool.false_eq_true, if_false]
  rw [h1, h2]
theorem FreshG.bl {H H' : Heap} {el : TypeId} {s n : Nat} {v : AV} {cs : List AV} (f : FreshG H H' el s v n cs) (h0 : 0 < n) : ∀ z, slBlock v = some z → z < H'.next := fun z hz => by
  rcases f.own with ⟨a, e, h, _⟩ | ⟨b, o, c, cap, sl, e, g0, g1, g2, _⟩
  · omega
  · rw [e] at hz
    simp [slBlock] at hz
    subst hz
    exact g2
set_option maxHeartbeats 1000000 in
theorem refRemove26_ok {H : Heap} {v : AV} {L : List EntT} (h : RefE H v L) (s : Nm8) : Cl Try.prog pr05 26 [v, .str s] H fun r H' => Keep H H' ∧ ∃ v' L' old e, r = .tuple [v', .int .i64 old, .int .i64 e] ∧ RemS L s L' old e ∧ RefE H' v' L' ∧ ∀ z, slBlock v' = some z → slBlock v = some z ∨ H.next ≤ z := by
  obtain ⟨f1, f2⟩ := findT_pos (s := s) h.pos
  obtain ⟨va, cap, ex, rfl, hc, hex⟩ := h.form
  have hfew := h.few
  obtain ⟨N, hN⟩ : ∃ N, N = L.length := ⟨_, rfl⟩
  refine Cl.enter Try.func26 rfl rfl Try.ntmps26 (by simp) ?_
  refine walk none0 ?_
  refine Wq.loop (fun m e H' => ∃ (i : Nat) (w : AV), i ≤ N ∧ m = N - i ∧ e 0 = .slice va L.length cap ex ∧ e 1 = .str s ∧ e 7 = w ∧ e 8 = .int .i64 (findT (L.take i) s) ∧ e 9 = .int .i64 i ∧ FreshG H H' 64 2 w ((L.take i).filter (keepT s)).length (flat encT ((L.take i).filter (keepT s))) ∧ ∀ z, slBlock w = some z → z < H'.next) N ?_ ?_
  · exact ⟨0, _, by omega, by omega, by simp, by simp, by simp, by simp [findT], by simp, (FreshG.made (H0 := H) (cs := []) (n := 0) (elem := 64) (s := 2) (Upd.rfl.push _) (by simp) (b := H.next) (by omega) (by simp) (by simp)), by simp [slBlock]⟩
  · rintro m e H' ⟨i, w, hi, rfl, g0, g1, g7, g8, g9, hF, hwl⟩
    obtain ⟨wa, wc, wx, rfl, _⟩ := hF.own.form
    have hMl : ((L.take i).filter (keepT s)).length ≤ 64 := Nat.le_trans (List.length_filter_le _ _) (by simp; omega)
    by_cases hlt : i < N
    · obtain ⟨t, q, hx⟩ := geti_ltT (l := L) (i := i) (by omega)
      have hltI : (i : Int) < L.length := by omega
      have hlt' : i < L.length := by omega
      obtain ⟨b, o, c, ty, w, mk, rfl, q1, q2, q3, q4, q5, q6⟩ := ent_at ((h.kept hF.keep).sl) hx
      have q3a : o + i * 2 < c.length := by omega
      have q3b : o + i * 2 + 1 < c.length := by omega
      have htk : L.take (i + 1) = L.take i ++ [(t, q)] := by rw [List.take_add_one, hx]; rfl
      by_cases he : t = s
      · subst he
        have hfs : findT (L.take (i + 1)) t = q := by
          rw [htk]
          refine findT_snoc_eq fun x hx2 e => ?_
          obtain ⟨j, hj⟩ := List.mem_iff_getElem?.1 hx2
          rw [List.getElem?_take] at hj
          split at hj
          · have := h.uq j i x (t, q) hj hx e
            omega
          · cases hj
        have hfi : (L.take (i + 1)).filter (keepT t) = (L.take i).filter (keepT t) := by
          rw [htk, List.filter_append]
          simp [keepT]
        refine walk (both g0 (both g1 (both g7 (both g8 (both g9 (both hlt' (both hltI (both q2 (both q3a (both q3b (both q5 q6))))))))))) ?_
        refine Roundq.normal (N - (i + 1)) (by omega) ⟨i + 1, _, by omega, rfl, by simp [g0], by simp [g1], by simp [g7], by simp [hfs], by simp, ?_, hwl⟩
        rw [hfi]
        exact hF
      · have hfs : findT (L.take (i + 1)) s = findT (L.take i) s := by rw [htk]; exact findT_snoc_ne he _
        have hfi : (L.take (i + 1)).filter (keepT s) = (L.take i).filter (keepT s) ++ [(t, q)] := by
          rw [htk, List.filter_append]
          simp [keepT, he]
        refine walk (both g0 (both g1 (both g7 (both g8 (both g9 (both hlt' (both hltI (both q2 (both q3 (both q3a (both q4 (both q5 he)))))))))))) ?_
        have kB : Keep H' (H'.push (.cells [.str t, .int .i64 q] 64 true false)) := Upd.rfl.push _
        refine Oq.appendL (own := (hF.own.kept kB)) (new := [.str t, .int .i64 q]) (m := 1) (by simp (disch := omega) [g7, -getElem?_pos, wrapI64, tdivN, tmodN, ipos, ineg, dpos, dneg, slc_l, slc_h, slc_lh, slc_hm, slc_lhm, slc_0, slcR_some, slcR_none, cutS_ok, cutA_ok, byteAt_ok]; first | done | (repeat' (first | rfl | apply And.intro))) ⟨_, rfl, by simp; first | done | (repeat' (first | rfl | apply And.intro))⟩ rfl (by kernel_rfl) (by kernel_rfl) (by refine ⟨by simp, ?_⟩; simp (disch := omega) [srcCells, cellsAt, g7, -getElem?_pos, wrapI64, tdivN, tmodN, ipos, ineg, dpos, dneg, slc_l, slc_h, slc_lh, slc_hm, slc_lhm, slc_0, slcR_some, slcR_none, cutS_ok, cutA_ok, byteAt_ok]; first | done | rfl) (by simp [g7]) (by simp [g7]) (by omega) (by omega) fun w1 H2 o1 b1 s1 l1 => ?_
        have f1' := (hF.then kB).app o1 b1 s1
        refine walk (both g0 (both g1 (both g8 g9))) ?_
        refine Roundq.normal (N - (i + 1)) (by omega) ⟨i + 1, w1, by omega, rfl, by simp [g0], by simp [g1], by simp, by simp [g8, hfs], by simp, ?_, fun z hz => ?_⟩
        · rw [hfi, flat_app, flat_one, List.length_append]
          exact f1'
        · rcases l1 z hz with g | g
          · have := hwl z g
            have := b1.1
            simp only [Heap.next_push] at this
            omega
          · exact g
    · obtain rfl : i = N := by omega
      have hltI : ¬ (i : Int) < L.length := by omega
      have htk : L.take i = L := List.take_of_length_le (by omega)
      rw [htk] at g7 g8 hF hMl hwl
      by_cases hz : findT L s = 0
      · refine walk (both g0 (both g1 (both g7 (both g8 (both g9 (both hltI hz)))))) ?_
        exact ⟨hF.keep, _, L, 0, 2, rfl, .inl ⟨hz, rfl, rfl, rfl⟩, h.kept hF.keep, fun z hz => .inl hz⟩
      · obtain ⟨k, hk⟩ := f2 (by omega)
        have hfe := filter_erase h.uq hk
        rw [hfe] at hF g7 hwl
        refine walk (both g0 (both g1 (both g7 (both g8 (both g9 (both hltI hz)))))) ?_
        refine ⟨hF.keep, _, L.eraseIdx k, _, 0, rfl, .inr ⟨by omega, rfl, rfl, k, hk, rfl⟩, ⟨?_, ?_, by rw [List.length_eraseIdx]; split <;> omega, fun i j x y hx hy e => ?_, fun x hx => h.pos x (List.mem_of_mem_eraseIdx hx)⟩, fun z hz => .inr (hF.new z hz)⟩
        · exact hF.own.sl
        · exact hwl
        · rw [List.getElem?_eraseIdx] at hx hy
          have hx' : L[if i < k then i else i + 1]? = some x := by split at hx <;> (rename_i h1; simp [h1, hx])
          have hy' : L[if j < k then j else j + 1]? = some y := by split at hy <;> (rename_i h1; simp [h1, hy])
          have := h.uq _ _ x y hx' hy' e
          split at this <;> split at this <;> omega
end Go.Abs

/- Chapter 05: the reference's Add, walked; both lists are one but for their order. -/
namespace Go.Abs
open Go.Proofs
set_option maxRecDepth 100000
set_option linter.unusedVariables false
set_option linter.unusedSimpArgs false

def AddE (L : List EntT) (s : Nm8) (n : Int) (L' : List EntT) : Prop := (addE L s n ≠ 0 ∧ L' = L) ∨ (addE L s n = 0 ∧ L' = L ++ [(s, n)])
theorem findT_zero {L : List EntT} {s : Nm8} (hp : ∀ x ∈ L, 0 < x.2) (h : findT L s = 0) : ∀ x ∈ L, x.1 ≠ s := by
  induction L with
  | nil => simp
  | cons a L ih =>
    obtain ⟨t, n⟩ := a
    have hn := hp (t, n) (by simp)
    simp only [] at hn
    by_cases e : t = s
    · simp only [findT, if_pos e] at h
      omega
    · simp only [findT, if_neg e] at h
      intro x hx
      rcases List.mem_cons.1 hx with rfl | hx
      · exact e
      · exact ih (fun x hx => hp x (by simp [hx])) h x hx
theorem refAdd27_ok {H : Heap} {v : AV} {L : List EntT} (h : RefE H v L) (s : Nm8) (hs : s.length ≤ 3000) (n : Int) : Cl Try.prog pr05 27 [v, .str s, .int .i64 n] H fun r H' => Keep H H' ∧ ∃ v' L', r = .tuple [v', .int .i64 (addE L s n)] ∧ AddE L s n L' ∧ RefE H' v' L' ∧ ∀ z, slBlock v' = some z → slBlock v = some z ∨ H.next ≤ z := by
  obtain ⟨f1, f2⟩ := findT_pos (s := s) h.pos
  have hfind := refFind17_ok h s
  obtain ⟨va, cap, ex, rfl, hc, hex⟩ := h.form
  have hfew := h.few
  refine Cl.enter Try.func27 rfl rfl Try.ntmps27 (by simp) ?_
  refine walk none0 ?_
  refine (refName_ok s hs H).mono fun r H0 _ ⟨ea, eb⟩ => ?_
  subst ea; subst eb
  by_cases he : nameE s = 0
  · rw [he]
    by_cases hn : n < 1
    · have hE : addE L s n = 22 := by unfold addE; rw [if_neg (by simp [he]), if_pos hn]
      refine walk hn ?_
      exact ⟨Upd.rfl, _, L, by rw [hE], .inl ⟨by rw [hE]; decide, rfl⟩, h, fun z hz => .inl hz⟩
    · refine walk hn ?_
      refine hfind.mono fun r H1 _ ⟨ea, eb⟩ => ?_
      subst ea; subst eb
      by_cases hf : 0 < findT L s
      · have hE : addE L s n = 17 := by unfold addE; rw [if_neg (by simp [he]), if_neg hn, if_pos hf]
        refine walk hf ?_
        exact ⟨Upd.rfl, _, L, by rw [hE], .inl ⟨by rw [hE]; decide, rfl⟩, h, fun z hz => .inl hz⟩
      · have hz := findT_zero h.pos (show findT L s = 0 by omega)
        by_cases h64 : 64 ≤ L.length
        · have h64I : 64 ≤ (L.length : Int) := by omega
          have hE : addE L s n = 28 := by unfold addE; rw [if_neg (by simp [he]), if_neg hn, if_neg hf, if_pos h64]
          refine walk (both hf h64I) ?_
          exact ⟨Upd.rfl, _, L, by rw [hE], .inl ⟨by rw [hE]; decide, rfl⟩, h, fun z hz => .inl hz⟩
        · have h64I : ¬ 64 ≤ (L.length : Int) := by omega
          have hE : addE L s n = 0 := by unfold addE; rw [if_neg (by simp [he]), if_neg hn, if_neg hf, if_neg h64]
          refine walk (both hf h64I) ?_
          refine Oq.appendL (own := (.empty _)) (new := flat encT L) (m := L.length) (by simp (disch := omega) [-getElem?_pos, wrapI64, tdivN, tmodN, ipos, ineg, dpos, dneg, slc_l, slc_h, slc_lh, slc_hm, slc_lhm, slc_0, slcR_some, slcR_none, cutS_ok, cutA_ok, byteAt_ok]; first | done | (repeat' (first | rfl | apply And.intro))) ⟨_, rfl, by simp; first | done | (repeat' (first | rfl | apply And.intro))⟩ rfl (by kernel_rfl) (by kernel_rfl) ((Sl.push h.sl _).src') (flat_len encT_len L) (flatT_one L) (by omega) (by omega) fun w1 H2 o1 b1 s1 l1 => ?_
          rw [Nat.zero_add, List.nil_append] at o1
          have f1' : FreshG H1 H2 64 2 w1 L.length (flat encT L) := (FreshG.made (H0 := H1) (cs := []) (n := 0) (elem := 64) (s := 2) (Upd.rfl.push _) (by simp) (b := H1.next) (by omega) (by simp) (by simp)).app o1 b1 s1
          obtain ⟨wa, wc, wx, rfl, _⟩ := o1.form
          refine walk none0 ?_
          have kB : Keep H2 (H2.push (.cells [.str s, .int .i64 n] 64 true false)) := Upd.rfl.push _
          refine Oq.appendL (own := (f1'.own.kept kB)) (new := [.str s, .int .i64 n]) (m := 1) (by simp (disch := omega) [none0, -getElem?_pos, wrapI64, tdivN, tmodN, ipos, ineg, dpos, dneg, slc_l, slc_h, slc_lh, slc_hm, slc_lhm, slc_0, slcR_some, slcR_none, cutS_ok, cutA_ok, byteAt_ok]; first | done | (repeat' (first | rfl | apply And.intro))) ⟨_, rfl, by simp; first | done | (repeat' (first | rfl | apply And.intro))⟩ rfl (by kernel_rfl) (by kernel_rfl) (by refine ⟨by simp, ?_⟩; simp (disch := omega) [srcCells, cellsAt, none0, -getElem?_pos, wrapI64, tdivN, tmodN, ipos, ineg, dpos, dneg, slc_l, slc_h, slc_lh, slc_hm, slc_lhm, slc_0, slcR_some, slcR_none, cutS_ok, cutA_ok, byteAt_ok]; first | done | rfl) (by simp [none0]) (by simp [none0]) (by omega) (by omega) fun w3 H3 o3 b3 s3 l3 => ?_
          have f3 := (f1'.then kB).app o3 b3 s3
          refine walk none0 ?_
          have hl : (L ++ [(s, n)]).length = L.length + 1 := by simp
          refine ⟨f3.keep, _, L ++ [(s, n)], by rw [hE], .inr ⟨hE, rfl⟩, ⟨?_, f3.bl (by omega), by omega, fun i j x y hx hy e => ?_, fun x hx => ?_⟩, fun z hz => .inr (f3.new z hz)⟩
          · rw [hl, flat_app, flat_one]
            exact f3.own.sl
          · have hne : ∀ (i : Nat) (x : EntT), L[i]? = some x → x.1 ≠ s := fun i x hx => hz x (List.mem_of_getElem? hx)
            by_cases hi : i < L.length
            · rw [List.getElem?_append_left hi] at hx
              by_cases hj : j < L.length
              · rw [List.getElem?_append_left hj] at hy
                exact h.uq i j x y hx hy e
              · rw [List.getElem?_append_right (by omega)] at hy
                have := (List.getElem?_eq_some_iff.1 hy).1
                simp at this
                rw [show j - L.length = 0 by omega] at hy
                simp at hy
                rw [← hy] at e
                exact absurd e (hne i x hx)
            · rw [List.getElem?_append_right (by omega)] at hx
              have := (List.getElem?_eq_some_iff.1 hx).1
              simp at this
              rw [show i - L.length = 0 by omega] at hx
              simp at hx
              by_cases hj : j < L.length
              · rw [List.getElem?_append_left hj] at hy
                rw [← hx] at e
                exact absurd e.symm (hne j y hy)
              · have := (List.getElem?_eq_some_iff.1 hy).1
                simp at this
                omega
          · rcases List.mem_append.1 hx with hx | hx
            · exact h.pos x hx
            · simp at hx
              rw [hx]
              simp only []
              omega
  · have hE : addE L s n = nameE s := by unfold addE; rw [if_pos he]
    refine walk he ?_
    exact ⟨Upd.rfl, _, L, by rw [hE], .inl ⟨by rw [hE]; exact he, rfl⟩, h, fun z hz => .inl hz⟩

/-! ## both -/
theorem perm_find {S L : List EntT} (hS : ∀ x ∈ S, 0 < x.2) (hr : Rising S) (hu : ∀ (i j : Nat) (x y : EntT), L[i]? = some x → L[j]? = some y → x.1 = y.1 → i = j) (hp : S.Perm L) (s : Nm8) : findT S s = findT L s := by
  have hL : ∀ x ∈ L, 0 < x.2 := fun x hx => hS x (hp.mem_iff.2 hx)
  by_cases h0 : findT L s = 0
  · rw [h0]
    have hz := findT_zero hL h0
    exact findT_no fun x hx => hz x (hp.mem_iff.1 hx)
  · obtain ⟨g1, g2⟩ := findT_pos (s := s) hL
    obtain ⟨k, hk⟩ := g2 (by omega)
    have hm := hp.mem_iff.2 (List.mem_of_getElem? hk)
    obtain ⟨j, hj⟩ := List.mem_iff_getElem?.1 hm
    exact findT_at hr.uniq hj
theorem perm_erase {α : Type} {l : List α} {k : Nat} {x : α} (h : l[k]? = some x) : l.Perm (x :: l.eraseIdx k) := by
  have hk := (List.getElem?_eq_some_iff.1 h).1
  have hd := List.drop_eq_getElem_cons hk
  rw [List.getElem?_eq_getElem hk] at h
  injection h with h
  rw [h] at hd
  rw [List.eraseIdx_eq_take_drop_succ]
  have : l = l.take k ++ (x :: l.drop (k + 1)) := by rw [← hd, List.take_append_drop]
  conv => lhs; rw [this]
  exact List.perm_middle
theorem perm_set {α : Type} {l : List α} {k : Nat} {x y : α} (h : l[k]? = some x) : (l.set k y).Perm (y :: l.eraseIdx k) := by
  have hk := (List.getElem?_eq_some_iff.1 h).1
  have := perm_erase (l := l.set k y) (k := k) (x := y) (List.getElem?_set_self hk)
  rw [show (l.set k y).eraseIdx k = l.eraseIdx k by
    rw [List.eraseIdx_eq_take_drop_succ, List.eraseIdx_eq_take_drop_succ, List.take_set_of_le (Nat.le_refl _), List.drop_set_of_lt (by omega)]] at this
  exact this
theorem perm_ins {l : List EntT} {k : Nat} {x : EntT} : (insT l k x).Perm (x :: l) := by
  unfold insT
  have := List.perm_middle (a := x) (l₁ := l.take k) (l₂ := l.drop k)
  rw [List.take_append_drop] at this
  exact this
theorem SetS.perm {S L S' L' : List EntT} {s : Nm8} {n o1 o2 e1 e2 : Int} (hp : S.Perm L) (hf : findT S s = findT L s) (h : SetS S s n S' o1 e1) (g : SetS L s n L' o2 e2) : S'.Perm L' ∧ o1 = o2 ∧ e1 = e2 := by
  rcases h with ⟨h1, rfl, rfl, rfl⟩ | ⟨h1, h2, rfl, rfl, rfl⟩ | ⟨h1, h2, rfl, rfl, k, h3, rfl⟩ <;> rcases g with ⟨g1, rfl, rfl, rfl⟩ | ⟨g1, g2, rfl, rfl, rfl⟩ | ⟨g1, g2, rfl, rfl, j, g3, rfl⟩ <;> first | exact ⟨hp, rfl, rfl⟩ | (exfalso; omega) | skip
  have a1 := perm_erase h3
  have a2 := perm_erase g3
  rw [hf] at a1
  have a3 : (S.eraseIdx k).Perm (L.eraseIdx j) := ((a1.symm.trans hp).trans a2).cons_inv
  exact ⟨((perm_set h3).trans (a3.cons _)).trans (perm_set g3).symm, hf, rfl⟩
theorem RemS.perm {S L S' L' : List EntT} {s : Nm8} {o1 o2 e1 e2 : Int} (hp : S.Perm L) (hf : findT S s = findT L s) (h : RemS S s S' o1 e1) (g : RemS L s L' o2 e2) : S'.Perm L' ∧ o1 = o2 ∧ e1 = e2 := by
  rcases h with ⟨h2, rfl, rfl, rfl⟩ | ⟨h2, rfl, rfl, k, h3, rfl⟩ <;> rcases g with ⟨g2, rfl, rfl, rfl⟩ | ⟨g2, rfl, rfl, j, g3, rfl⟩ <;> first | exact ⟨hp, rfl, rfl⟩ | (exfalso; omega) | skip
  have a1 := perm_erase h3
  have a2 := perm_erase g3
  rw [hf] at a1
  exact ⟨((a1.symm.trans hp).trans a2).cons_inv, hf, rfl⟩
theorem add_same {S L : List EntT} {s : Nm8} {n : Int} (hp : S.Perm L) (hf : findT S s = findT L s) : addE S s n = addE L s n := by
  unfold addE
  rw [hf, hp.length_eq]
theorem AddS.perm {S L S' L' : List EntT} {s : Nm8} {n : Int} (hp : S.Perm L) (hf : findT S s = findT L s) (h : AddS S s n S') (g : AddE L s n L') : S'.Perm L' := by
  have e := add_same (n := n) hp hf
  rcases h with ⟨h1, rfl⟩ | ⟨h1, k, _, _, rfl⟩ <;> rcases g with ⟨g1, rfl⟩ | ⟨g1, rfl⟩ <;> first | exact hp | (exfalso; omega) | skip
  exact (perm_ins.trans (hp.cons _)).trans (List.perm_append_singleton _ _).symm
end Go.Abs

/- Chapter 05: an act done to both, walked. -/
namespace Go.Abs
open Go.Proofs
set_option maxRecDepth 100000
set_option linter.unusedVariables false
set_option linter.unusedSimpArgs false

structure BothD (H0 H : Heap) (p : Nat) (slv : AV) (S : List EntT) (v : AV) (L : List EntT) : Prop where
  d : DirR H p slv S
  r : RefE H v L
  pm : S.Perm L
  ap : ∀ z, slBlock v = some z → z ≠ p ∧ slBlock slv ≠ some z
  lp : H0.next ≤ p
  ls : ∀ z, slBlock slv = some z → H0.next ≤ z
  k : Keep H0 H
theorem BothD.kept {H0 H H' : Heap} {p : Nat} {slv v : AV} {S L : List EntT} (h : BothD H0 H p slv S v L) (k : Keep H H') : BothD H0 H' p slv S v L := ⟨h.d.kept k, h.r.kept k, h.pm, h.ap, h.lp, h.ls, h.k.then k⟩
theorem BothD.find {H0 H : Heap} {p : Nat} {slv v : AV} {S L : List EntT} (h : BothD H0 H p slv S v L) (s : Nm8) : findT S s = findT L s := perm_find h.d.pos h.d.up h.r.uq h.pm s
/-- The directory has turned first. -/
theorem BothD.turn1 {H0 H H1 H2 : Heap} {p : Nat} {slv v v' : AV} {S L S' L' : List EntT} (h : BothD H0 H p slv S v L) (a : ActR H p slv S' H1) (k : Keep H1 H2) (hr : RefE H2 v' L') (hv : ∀ z, slBlock v' = some z → slBlock v = some z ∨ H1.next ≤ z) (hp : S'.Perm L') : ∃ slv', BothD H0 H2 p slv' S' v' L' := by
  obtain ⟨slv', u, hd, hb⟩ := a
  have hlt := h.d.lt
  have hk := h.k.next
  have hn := u.next
  refine ⟨slv', hd.kept k, hr, hp, fun z hz => ?_, h.lp, fun z hz => ?_, (h.k.trans u fun z h1 h2 => ?_).then k⟩
  · rcases hv z hz with g | g
    · obtain ⟨g1, g2⟩ := h.ap z g
      refine ⟨g1, fun e => ?_⟩
      rcases hb z e with q | q
      · exact g2 q
      · have := h.r.bl z g; omega
    · exact ⟨by omega, fun e => by have := hd.bl z e; omega⟩
  · rcases hb z hz with q | q
    · exact h.ls z q
    · omega
  · rcases h2 with h2 | h2
    · have := h.lp; omega
    · have := h.ls z h2; omega
/-- The reference first. -/
theorem BothD.turn2 {H0 H H1 H2 : Heap} {p : Nat} {slv v v' : AV} {S L S' L' : List EntT} (h : BothD H0 H p slv S v L) (k : Keep H H1) (hr : RefE H1 v' L') (hv : ∀ z, slBlock v' = some z → slBlock v = some z ∨ H.next ≤ z) (a : ActR H1 p slv S' H2) (hp : S'.Perm L') : ∃ slv', BothD H0 H2 p slv' S' v' L' := by
  obtain ⟨slv', u, hd, hb⟩ := a
  have hlt := h.d.lt
  have hk := h.k.next
  have hk1 := k.next
  have hn := u.next
  have hapv : ∀ z, slBlock v' = some z → z ≠ p ∧ slBlock slv ≠ some z := fun z hz => by
    rcases hv z hz with g | g
    · exact h.ap z g
    · exact ⟨by omega, fun e => by have := h.d.bl z e; omega⟩
  refine ⟨slv', hd, hr.upd u fun z hz hc => ?_, hp, fun z hz => ?_, h.lp, fun z hz => ?_, (h.k.then k).trans u fun z h1 h2 => ?_⟩
  · obtain ⟨g1, g2⟩ := hapv z hz
    rcases hc with hc | hc
    · exact g1 hc
    · exact g2 hc
  · obtain ⟨g1, g2⟩ := hapv z hz
    refine ⟨g1, fun e => ?_⟩
    rcases hb z e with q | q
    · exact g2 q
    · have := hr.bl z hz; omega
  · rcases hb z hz with q | q
    · exact h.ls z q
    · omega
  · rcases h2 with h2 | h2
    · have := h.lp; omega
    · have := h.ls z h2; omega
theorem BothD.ref {H0 H H1 : Heap} {p : Nat} {slv v : AV} {S S' L : List EntT} (h : BothD H0 H p slv S v L) (a : ActR H p slv S' H1) : RefE H1 v L := by
  obtain ⟨slv', u, hd, hb⟩ := a
  refine h.r.upd u fun z hz hc => ?_
  obtain ⟨g1, g2⟩ := h.ap z hz
  rcases hc with hc | hc
  · exact g1 hc
  · exact g2 hc
set_option maxHeartbeats 1000000 in
theorem does12_ok {H0 H : Heap} {p : Nat} {slv v : AV} {S L : List EntT} (h : BothD H0 H p slv S v L) (k n : Int) (s : Nm8) : Cl Try.prog pr05 12 [.ptr (some (p, 0)), v, .agg [.int .i64 k, .str s, .int .i64 n]] H fun r H' => ∃ S' v' L' slv', r = .tuple [v', .bool true] ∧ BothD H0 H' p slv' S' v' L' := by
  obtain ⟨va, cap, ex, rfl, hc, hex⟩ := h.r.form
  have hlen : (s.take 100).length ≤ 3000 := by simp; omega
  refine Cl.enter Try.func12 rfl rfl Try.ntmps12 (by simp) ?_
  by_cases hl : 100 < s.length
  · have hlI : 100 < (s.length : Int) := by omega
    refine walk (both hlI hl) ?_
    have hB := h.kept (show Keep H ((H.push (.cells [.int .i64 k, .str s, .int .i64 n] 36 true false)).set H.next (.cells [.int .i64 k, .str (s.take 100), .int .i64 n] 36 true false)) from ((Upd.rfl.push _).set _ (by simp) (by omega)))
    have gA : ((H.push (.cells [.int .i64 k, .str s, .int .i64 n] 36 true false)).set H.next (.cells [.int .i64 k, .str (s.take 100), .int .i64 n] 36 true false)).get H.next = some (.cells [.int .i64 k, .str (s.take 100), .int .i64 n] 36 true false) := (Heap.get_set_same _ _ _)
    have nA : H.next < ((H.push (.cells [.int .i64 k, .str s, .int .i64 n] 36 true false)).set H.next (.cells [.int .i64 k, .str (s.take 100), .int .i64 n] 36 true false)).next := (by simp)
    generalize (H.push (.cells [.int .i64 k, .str s, .int .i64 n] 36 true false)).set H.next (.cells [.int .i64 k, .str (s.take 100), .int .i64 n] 36 true false) = H2 at *
    generalize s.take 100 = t at *
    have hf := hB.find t
    have hplt := h.d.lt
    have hnotA : ∀ {S' H3}, ActR H2 p slv S' H3 → H3.get H.next = some (.cells [.int .i64 k, .str t, .int .i64 n] 36 true false) := fun a => by
      obtain ⟨slv', u, _, _⟩ := a
      refine (u.keep H.next nA fun hc => ?_).trans gA
      rcases hc with hc | hc
      · omega
      · have := h.d.bl _ hc; omega
    by_cases k1 : k = 1
    · subst k1
      refine walk gA ?_
      refine (Set20_ok hB.d t n).mono fun r H3 _ ⟨S', o1, e1, ea, hS, hA⟩ => ?_
      subst ea
      have gA3 := hnotA hA
      refine walk gA3 ?_
      refine (refSet25_ok (hB.ref hA) t n).mono fun r H4 _ ⟨k4, v', L', o2, e2, ea, hS2, hr4, hv4⟩ => ?_
      subst ea
      obtain ⟨hp, rfl, rfl⟩ := hS.perm hB.pm hf hS2
      obtain ⟨slv', hB4⟩ := hB.turn1 hA k4 hr4 hv4 hp
      obtain ⟨ra, rc, rx, rfl, _⟩ := hr4.form
      refine walk none0 ?_
      exact ⟨S', _, L', slv', by simp, hB4⟩
    · by_cases k2 : k = 2
      · subst k2
        refine walk gA ?_
        refine (Remove21_ok hB.d t).mono fun r H3 _ ⟨S', o1, e1, ea, hS, hA⟩ => ?_
        subst ea
        have gA3 := hnotA hA
        refine walk gA3 ?_
        refine (refRemove26_ok (hB.ref hA) t).mono fun r H4 _ ⟨k4, v', L', o2, e2, ea, hS2, hr4, hv4⟩ => ?_
        subst ea
        obtain ⟨hp, rfl, rfl⟩ := hS.perm hB.pm hf hS2
        obtain ⟨slv', hB4⟩ := hB.turn1 hA k4 hr4 hv4 hp
        obtain ⟨ra, rc, rx, rfl, _⟩ := hr4.form
        refine walk none0 ?_
        exact ⟨S', _, L', slv', by simp, hB4⟩
      · refine walk (both gA (both k1 k2)) ?_
        refine (refAdd27_ok hB.r t hlen n).mono fun r H3 _ ⟨k3, v', L', ea, hS2, hr3, hv3⟩ => ?_
        subst ea
        have gA3 := (k3.get nA).trans gA
        obtain ⟨ra, rc, rx, rfl, _⟩ := hr3.form
        refine walk gA3 ?_
        refine (Add10_ok (hB.d.kept k3) t hlen n).mono fun r H4 _ ⟨S', ea, hS, hA⟩ => ?_
        subst ea
        have hE := add_same (n := n) hB.pm hf
        obtain ⟨slv', hB4⟩ := hB.turn2 k3 hr3 hv3 hA (hS.perm hB.pm hf hS2)
        rw [hE]
        refine walk none0 ?_
        exact ⟨S', _, L', slv', by simp, hB4⟩
  · have hlI : ¬ 100 < (s.length : Int) := by omega
    have htk : s.take 100 = s := List.take_of_length_le (by omega)
    refine walk (both hlI hl) ?_
    rw [← htk]
    have hB := h.kept (show Keep H (H.push (.cells [.int .i64 k, .str (s.take 100), .int .i64 n] 36 true false)) from (Upd.rfl.push _))
    have gA : (H.push (.cells [.int .i64 k, .str (s.take 100), .int .i64 n] 36 true false)).get H.next = some (.cells [.int .i64 k, .str (s.take 100), .int .i64 n] 36 true false) := (by simp)
    have nA : H.next < (H.push (.cells [.int .i64 k, .str (s.take 100), .int .i64 n] 36 true false)).next := (by simp)
    generalize H.push (.cells [.int .i64 k, .str (s.take 100), .int .i64 n] 36 true false) = H2 at *
    generalize s.take 100 = t at *
    have hf := hB.find t
    have hplt := h.d.lt
    have hnotA : ∀ {S' H3}, ActR H2 p slv S' H3 → H3.get H.next = some (.cells [.int .i64 k, .str t, .int .i64 n] 36 true false) := fun a => by
      obtain ⟨slv', u, _, _⟩ := a
      refine (u.keep H.next nA fun hc => ?_).trans gA
      rcases hc with hc | hc
      · omega
      · have := h.d.bl _ hc; omega
    by_cases k1 : k = 1
    · subst k1
      refine walk gA ?_
      refine (Set20_ok hB.d t n).mono fun r H3 _ ⟨S', o1, e1, ea, hS, hA⟩ => ?_
      subst ea
      have gA3 := hnotA hA
      refine walk gA3 ?_
      refine (refSet25_ok (hB.ref hA) t n).mono fun r H4 _ ⟨k4, v', L', o2, e2, ea, hS2, hr4, hv4⟩ => ?_
      subst ea
      obtain ⟨hp, rfl, rfl⟩ := hS.perm hB.pm hf hS2
      obtain ⟨slv', hB4⟩ := hB.turn1 hA k4 hr4 hv4 hp
      obtain ⟨ra, rc, rx, rfl, _⟩ := hr4.form
      refine walk none0 ?_
      exact ⟨S', _, L', slv', by simp, hB4⟩
    · by_cases k2 : k = 2
      · subst k2
        refine walk gA ?_
        refine (Remove21_ok hB.d t).mono fun r H3 _ ⟨S', o1, e1, ea, hS, hA⟩ => ?_
        subst ea
        have gA3 := hnotA hA
        refine walk gA3 ?_
        refine (refRemove26_ok (hB.ref hA) t).mono fun r H4 _ ⟨k4, v', L', o2, e2, ea, hS2, hr4, hv4⟩ => ?_
        subst ea
        obtain ⟨hp, rfl, rfl⟩ := hS.perm hB.pm hf hS2
        obtain ⟨slv', hB4⟩ := hB.turn1 hA k4 hr4 hv4 hp
        obtain ⟨ra, rc, rx, rfl, _⟩ := hr4.form
        refine walk none0 ?_
        exact ⟨S', _, L', slv', by simp, hB4⟩
      · refine walk (both gA (both k1 k2)) ?_
        refine (refAdd27_ok hB.r t hlen n).mono fun r H3 _ ⟨k3, v', L', ea, hS2, hr3, hv3⟩ => ?_
        subst ea
        have gA3 := (k3.get nA).trans gA
        obtain ⟨ra, rc, rx, rfl, _⟩ := hr3.form
        refine walk gA3 ?_
        refine (Add10_ok (hB.d.kept k3) t hlen n).mono fun r H4 _ ⟨S', ea, hS, hA⟩ => ?_
        subst ea
        have hE := add_same (n := n) hB.pm hf
        obtain ⟨slv', hB4⟩ := hB.turn2 k3 hr3 hv3 hA (hS.perm hB.pm hf hS2)
        rw [hE]
        refine walk none0 ?_
        exact ⟨S', _, L', slv', by simp, hB4⟩
end Go.Abs
