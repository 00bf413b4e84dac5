/- Texts on this program, joined. -/
import Derived.Test.YtllnhgcndinodaaProg
import Derived.Test.YtllnhgcndinodaaOwn05
import Derived.Shelf.Sort.Plain
import Derived.Shelf.Slices.In.SortNone
import Derived.Lib.SlKeysI
import Derived.Maps.RangeWalk
import Derived.Maps.AppendAt
import Derived.Sort.OwnSortedInts
import Derived.OwnWalk
import Derived.Deep.Cut
import Derived.KernelRfl
import Derived.Test.YtllnhgcndinodaaKit06
import Derived.Test.YtllnhgcndinodaaKit04

/- Chapter 06: all numbers of a map, rising: walked in the model. -/
namespace Go.Proofs
open Go.Abs (anyElem AllWalk)
open Go.ChangeShapes Go.WideShapes Go.RowKit Go.Maps Go.WideElems Go.Sort Go.Shelf
set_option linter.unusedVariables false
set_option linter.unusedSimpArgs false

theorem Try.infoI3 : (Try.prog.info? 3).map (fun i => (i.zero, i.size, i.bytes)) = some (some (.int .i64 0), 1, 8) := by kernel_rfl

set_option maxRecDepth 1000000 in
set_option maxHeartbeats 3200000 in
theorem Try.all_walk (blk off bm n : Nat) (D0 : DataW Unit) (W : World) (hcell : W.cell? ⟨blk, off, none⟩ = some (.map (some bm))) (hown : W.ownsMap Try.prog 3 anyElem bm n D0) (hsz : Maps.size D0 ≤ 100000) :
    Calls Try.prog 11 #[.pointer (some ⟨blk, off, none⟩)] W fun e w' => ∃ v ss, e = .returned v ∧ ss.Perm (intKeys D0) ∧
      w'.ownsRow W.heap.size 3 1 v ss.length ((ss.mergeSort fun x y => decide (x ≤ y)).map (Value.int .i64)) ∧ (ss = [] → v = .slice none 0 0) ∧ W.grownBy w' none := by
  obtain ⟨i0, hi, hz0, hz1, hz2⟩ := info_parts Try.infoI3
  have hbm := hown.lt
  go_enter Try.func11, Try.ntmps11
  go_wp2_with (first
    | (at_range; refine wpList_range_own _ rfl _ 72 rfl 3 77 (int_keyed Try.underlying3) Try.underlying72 _ bm n _ rfl hown ?_; intro w0 hrg0 hg0 hs0)
    | go_in)
  go_frame
  go_loopw [3] (fun v wr => ∃ (left : Lit → Bool) (cnt : Nat) (ks : List Int), wr.ranges Try.prog 3 anyElem bm W.heap.size n D0 left cnt ∧
      wr.ownsRow W.heap.size 3 1 v ks.length (ks.map (Value.int .i64)) ∧ (ks = [] → v = .slice none 0 0) ∧ CollectedI D0 left ks ∧ ks.length + cnt ≤ Maps.size D0 ∧ W.grownBy wr none ∧ (∀ g, v.ownBlock = some g → g ≠ W.heap.size))
    (fun _ wr => wr.rangeLeft bm W.heap.size)
  case atStart =>
    exact ⟨_, _, [], hrg0, World.ownsRow_nil _ _ _ _, (fun _ => rfl), CollectedI.start D0, by simp, hg0, by simp [Value.ownBlock]⟩
  case round =>
    obtain ⟨left, cnt, ks, hrg, hrow, hN, hC, hlen, hgw, hob⟩ := hrel
    go_wp2_with (first
      | (at_next; refine wpList_next_ranges _ rfl _ rfl 3 (int_keyed Try.underlying3) anyElem (Value.int .i64) id (fun key kl hk => by obtain ⟨x, hx, _⟩ := Maps.keyOf_i64 Try.underlying3 hk; exact ⟨x, hx⟩) (fun v _ _ => ⟨v, rfl⟩) bm W.heap.size n _ _ _ rfl hrg ?_ ?_)
      | go_in)
    · -- nothing is left: the sort
      intro hc0 hl0
      have hperm := hC.perm hrg.owns (int_keyed Try.underlying3) Try.underlying3 hl0
      rcases hrow.2 with ⟨hnil, hk0⟩ | ⟨g, cap, cur, hv, hbase, hb, h1, h2, h3, h4⟩
      · subst hnil
        obtain rfl : ks = [] := List.eq_nil_of_length_eq_zero hk0
        clear hrg
        go_wp2_with (go_at_call 35; refine (Any.slices_Sort_int_none Try.lays189 none 0 _).mono ?_; rintro e w' ⟨rfl, rfl⟩)
        go_ret
        exact ⟨_, [], rfl, hperm, by simpa using hrow, fun _ => rfl, hgw⟩
      · subst hv
        have hH : Holds (Value.int .i64) wr g 0 ks.toArray := holds_of_blockI hb (by simpa using h4)
        have hgl : g < wr.heap.size := (Array.getElem?_eq_some_iff.1 hb).1
        have hsort := Any.slices_Sort_int Try.lays189 g 0 cap ks wr hH hgl (by omega)
        have hl2 : (ks.mergeSort fun x y => decide (x ≤ y)).length = ks.length := List.length_mergeSort ks
        clear hrg hH
        go_wp2_with (go_at_call 35; refine hsort.mono ?_; rintro e w' ⟨rfl, nn, os, rfl⟩)
        go_ret
        have hg := grownBy_sortedI (w := wr) (g := g) (n := nn) (os := os) (ks.mergeSort fun x y => decide (x ≤ y)).toArray
        have hro := ownsRow_sortedI (n := nn) (os := os) (ts := ks.mergeSort fun x y => decide (x ≤ y)) hl2 hbase hb h1 h2 h3
        refine ⟨_, ks, rfl, hperm, hro, fun e => hN e, hgw.andThen hg ?_⟩
        intro j hj
        cases hj
        exact .inl hbase
    · -- an entry has come
      intro x c kl y yp w1 cnt1 hkey hlx hv hat hrg1 hlt hg1 hs1 hen
      obtain ⟨x', ex, rfl, hwx⟩ := Maps.keyOf_i64 Try.underlying3 hkey
      cases ex
      have hm0 : wr.rangeLeft bm W.heap.size = cnt := hrg.left_eq
      have hrow1 := hrow.kept hg1 (by
        cases hob2 : u3.ownBlock with
        | none => exact Or.inl rfl
        | some g => exact Or.inr (fun e => hob g hob2 (by simpa using e)))
      have hgw1 : W.grownBy w1 none := hgw.andThen hg1 (by intro j hj; cases hj; exact .inl (Nat.le_refl _))
      have hsz1 := hgw1.size
      clear hrow hrg hgw hs1
      go_wp2_with (first
        | (at_builtin; refine wpList_append_own_at _ rfl _ _ 38 rfl W.heap.size 3 i0 (.int .i64 0) 1 8 Try.underlying38 hi hz0 hz1 hz2 rfl (by decide) _ _ _ rfl (hrow1.alloc _) ⟨w1.heap.size, 0, none⟩ 1 1 [.int .i64 x] rfl rfl ?c1 ?c2 ?c3 ?c4 ?c5 ?_)
        | go_in)
      case c1 =>
        intro j u hj
        match j, hj with
        | 0, hj => simp at hj; subst hj; simp [Addr.add]
      case c2 => intro u hu; simp at hu; subst hu; rfl
      case c3 => unfold maxLen; omega
      case c4 => omega
      case c5 => simp; omega
      · intro v' w4 hown' hgrow _ hloc
        have hrow1a := hrow1.alloc (.cells #[.int .i64 x] 3)
        have hrg4 := (hrg1.alloc (.cells #[.int .i64 x] 3)).kept hgrow (fun e => by
          have := (hrow1a.lt bm e.symm).1; omega) (fun e => hob _ e.symm rfl)
        have hgw4 : W.grownBy w4 none := (hgw1.andThen (World.grownBy_alloc w1 (.cells #[.int .i64 x] 3) none) (fun j hj => by cases hj)).andThen hgrow (fun j hj => .inl (hrow1a.lt j hj).1)
        have hrow4 : w4.ownsRow W.heap.size 3 1 v' (ks ++ [x]).length ((ks ++ [x]).map (Value.int .i64)) := by simpa using hown'
        have hlt2 := hrg1.lt
        clear hown' hgrow hrow1a hrg1 hrow1
        go_wp2
        go_roundw
        case rel =>
          refine ⟨_, _, ks ++ [x], hrg4, hrow4, (fun h => by simp at h), hC.step hlx hat, by simp; omega, hgw4, ?_⟩
          intro g hg
          rcases hloc with e | e
          · exact hob g (e ▸ hg)
          · rw [e] at hg
            injection hg with hg
            omega
        case measure => rw [hrg4.left_eq, hm0]; exact hlt
theorem Try.all_nil (W : World) : Calls Try.prog 11 #[.pointer none] W fun e w' => e = .returned (.slice none 0 0) ∧ w' = W := by
  go_enter Try.func11, Try.ntmps11
  go_wp2
  go_ret
  exact ⟨rfl, rfl⟩
theorem Try.allWalk : AllWalk Try.prog 11 3 3 := ⟨Try.all_nil, Try.all_walk⟩
theorem Try.allOk : Go.Abs.PrimsOk Try.prog (Go.Abs.allPrims 11 3) := Go.Abs.allPrims_ok Try.underlying3 Try.allWalk Try.func11 (by kernel_rfl) (by kernel_rfl)
end Go.Proofs

/- The sizes, zero values and kinds of the types of this seat's program, for the walks. -/
namespace Go.Abs
set_option linter.unusedVariables false
open Go.Proofs
set_option maxRecDepth 100000

@[simp] theorem tsz2 : tsz Try.prog 2 = some 1 := by kernel_rfl
@[simp] theorem tbytes2 : tbytes Try.prog 2 = some 8 := by kernel_rfl
@[simp] theorem tagg2 : tagg Try.prog 2 = some false := by kernel_rfl
@[simp] theorem tzero2 : tzero Try.prog 2 = some (Go.Abs.AV.int Go.IntKind.i64 0) := by kernel_rfl
@[simp] theorem intT2 : intT Try.prog 2 = some .i64 := by kernel_rfl
@[simp] theorem tsz3 : tsz Try.prog 3 = some 1 := by kernel_rfl
@[simp] theorem tbytes3 : tbytes Try.prog 3 = some 8 := by kernel_rfl
@[simp] theorem tagg3 : tagg Try.prog 3 = some false := by kernel_rfl
@[simp] theorem tzero3 : tzero Try.prog 3 = some (Go.Abs.AV.int Go.IntKind.i64 0) := by kernel_rfl
@[simp] theorem intT3 : intT Try.prog 3 = some .i64 := by kernel_rfl
@[simp] theorem tsz4 : tsz Try.prog 4 = some 1 := by kernel_rfl
@[simp] theorem tbytes4 : tbytes Try.prog 4 = some 1 := by kernel_rfl
@[simp] theorem tagg4 : tagg Try.prog 4 = some false := by kernel_rfl
@[simp] theorem tzero4 : tzero Try.prog 4 = some (Go.Abs.AV.bool false) := by kernel_rfl
@[simp] theorem isBoolT4 : isBoolT Try.prog 4 = true := by kernel_rfl
@[simp] theorem tsz5 : tsz Try.prog 5 = some 1 := by kernel_rfl
@[simp] theorem tbytes5 : tbytes Try.prog 5 = some 1 := by kernel_rfl
@[simp] theorem tagg5 : tagg Try.prog 5 = some false := by kernel_rfl
@[simp] theorem tzero5 : tzero Try.prog 5 = some (Go.Abs.AV.int Go.IntKind.u8 0) := by kernel_rfl
@[simp] theorem intT5 : intT Try.prog 5 = some .u8 := by kernel_rfl
@[simp] theorem tsz6 : tsz Try.prog 6 = some 1 := by kernel_rfl
@[simp] theorem tbytes6 : tbytes Try.prog 6 = some 1 := by kernel_rfl
@[simp] theorem tagg6 : tagg Try.prog 6 = some false := by kernel_rfl
@[simp] theorem tzero6 : tzero Try.prog 6 = some (Go.Abs.AV.int Go.IntKind.u8 0) := by kernel_rfl
@[simp] theorem intT6 : intT Try.prog 6 = some .u8 := by kernel_rfl
@[simp] theorem tsz7 : tsz Try.prog 7 = some 4 := by kernel_rfl
@[simp] theorem tbytes7 : tbytes Try.prog 7 = some 24 := by kernel_rfl
@[simp] theorem tagg7 : tagg Try.prog 7 = some true := by kernel_rfl
@[simp] theorem tzero7 : tzero Try.prog 7 = some (Go.Abs.AV.agg [Go.Abs.AV.int Go.IntKind.i64 0, Go.Abs.AV.int Go.IntKind.i64 0, Go.Abs.AV.bool false, Go.Abs.AV.int Go.IntKind.u8 0]) := by kernel_rfl
@[simp] theorem tsz8 : tsz Try.prog 8 = some 4 := by kernel_rfl
@[simp] theorem tbytes8 : tbytes Try.prog 8 = some 24 := by kernel_rfl
@[simp] theorem tagg8 : tagg Try.prog 8 = some true := by kernel_rfl
@[simp] theorem tzero8 : tzero Try.prog 8 = some (Go.Abs.AV.agg [Go.Abs.AV.int Go.IntKind.i64 0, Go.Abs.AV.int Go.IntKind.i64 0, Go.Abs.AV.bool false, Go.Abs.AV.int Go.IntKind.u8 0]) := by kernel_rfl
@[simp] theorem tsz9 : tsz Try.prog 9 = some 1 := by kernel_rfl
@[simp] theorem tbytes9 : tbytes Try.prog 9 = some 16 := by kernel_rfl
@[simp] theorem tagg9 : tagg Try.prog 9 = some false := by kernel_rfl
@[simp] theorem tzero9 : tzero Try.prog 9 = some (Go.Abs.AV.str []) := by kernel_rfl
@[simp] theorem isStrT9 : isStrT Try.prog 9 = true := by kernel_rfl
@[simp] theorem bytesT9 : bytesT Try.prog 9 = false := by kernel_rfl
@[simp] theorem tsz10 : tsz Try.prog 10 = some 1 := by kernel_rfl
@[simp] theorem tbytes10 : tbytes Try.prog 10 = some 16 := by kernel_rfl
@[simp] theorem tagg10 : tagg Try.prog 10 = some false := by kernel_rfl
@[simp] theorem tzero10 : tzero Try.prog 10 = some (Go.Abs.AV.str []) := by kernel_rfl
@[simp] theorem isStrT10 : isStrT Try.prog 10 = true := by kernel_rfl
@[simp] theorem bytesT10 : bytesT Try.prog 10 = false := by kernel_rfl
@[simp] theorem tsz11 : tsz Try.prog 11 = some 1 := by kernel_rfl
@[simp] theorem tbytes11 : tbytes Try.prog 11 = some 16 := by kernel_rfl
@[simp] theorem tagg11 : tagg Try.prog 11 = some false := by kernel_rfl
@[simp] theorem tzero11 : tzero Try.prog 11 = some (Go.Abs.AV.str []) := by kernel_rfl
@[simp] theorem isStrT11 : isStrT Try.prog 11 = true := by kernel_rfl
@[simp] theorem bytesT11 : bytesT Try.prog 11 = false := by kernel_rfl
@[simp] theorem tsz12 : tsz Try.prog 12 = some 1 := by kernel_rfl
@[simp] theorem tbytes12 : tbytes Try.prog 12 = some 8 := by kernel_rfl
@[simp] theorem tagg12 : tagg Try.prog 12 = some false := by kernel_rfl
@[simp] theorem tzero12 : tzero Try.prog 12 = some (Go.Abs.AV.int Go.IntKind.u64 0) := by kernel_rfl
@[simp] theorem intT12 : intT Try.prog 12 = some .u64 := by kernel_rfl
@[simp] theorem tsz13 : tsz Try.prog 13 = some 2 := by kernel_rfl
@[simp] theorem tbytes13 : tbytes Try.prog 13 = some 24 := by kernel_rfl
@[simp] theorem tagg13 : tagg Try.prog 13 = some true := by kernel_rfl
@[simp] theorem tzero13 : tzero Try.prog 13 = some (Go.Abs.AV.agg [Go.Abs.AV.str [], Go.Abs.AV.int Go.IntKind.u64 0]) := by kernel_rfl
@[simp] theorem tsz14 : tsz Try.prog 14 = some 2 := by kernel_rfl
@[simp] theorem tbytes14 : tbytes Try.prog 14 = some 24 := by kernel_rfl
@[simp] theorem tagg14 : tagg Try.prog 14 = some true := by kernel_rfl
@[simp] theorem tzero14 : tzero Try.prog 14 = some (Go.Abs.AV.agg [Go.Abs.AV.str [], Go.Abs.AV.int Go.IntKind.u64 0]) := by kernel_rfl
@[simp] theorem tsz15 : tsz Try.prog 15 = some 1 := by kernel_rfl
@[simp] theorem tbytes15 : tbytes Try.prog 15 = some 8 := by kernel_rfl
@[simp] theorem tagg15 : tagg Try.prog 15 = some false := by kernel_rfl
@[simp] theorem tzero15 : tzero Try.prog 15 = some (Go.Abs.AV.ptr none) := by kernel_rfl
@[simp] theorem isPtrT15 : isPtrT Try.prog 15 = true := by kernel_rfl
@[simp] theorem tsz16 : tsz Try.prog 16 = some 1 := by kernel_rfl
@[simp] theorem tbytes16 : tbytes Try.prog 16 = some 8 := by kernel_rfl
@[simp] theorem tagg16 : tagg Try.prog 16 = some false := by kernel_rfl
@[simp] theorem tzero16 : tzero Try.prog 16 = some (Go.Abs.AV.ptr none) := by kernel_rfl
@[simp] theorem isPtrT16 : isPtrT Try.prog 16 = true := by kernel_rfl
@[simp] theorem tsz17 : tsz Try.prog 17 = some 1 := by kernel_rfl
@[simp] theorem tbytes17 : tbytes Try.prog 17 = some 8 := by kernel_rfl
@[simp] theorem tagg17 : tagg Try.prog 17 = some false := by kernel_rfl
@[simp] theorem tzero17 : tzero Try.prog 17 = some (Go.Abs.AV.ptr none) := by kernel_rfl
@[simp] theorem isPtrT17 : isPtrT Try.prog 17 = true := by kernel_rfl
@[simp] theorem tsz18 : tsz Try.prog 18 = some 1 := by kernel_rfl
@[simp] theorem tbytes18 : tbytes Try.prog 18 = some 8 := by kernel_rfl
@[simp] theorem tagg18 : tagg Try.prog 18 = some true := by kernel_rfl
@[simp] theorem tzero18 : tzero Try.prog 18 = some (Go.Abs.AV.agg [Go.Abs.AV.ptr none]) := by kernel_rfl
@[simp] theorem tsz19 : tsz Try.prog 19 = some 1 := by kernel_rfl
@[simp] theorem tbytes19 : tbytes Try.prog 19 = some 8 := by kernel_rfl
@[simp] theorem tagg19 : tagg Try.prog 19 = some true := by kernel_rfl
@[simp] theorem tzero19 : tzero Try.prog 19 = some (Go.Abs.AV.agg [Go.Abs.AV.ptr none]) := by kernel_rfl
@[simp] theorem tsz21 : tsz Try.prog 21 = some 1 := by kernel_rfl
@[simp] theorem tbytes21 : tbytes Try.prog 21 = some 4 := by kernel_rfl
@[simp] theorem tagg21 : tagg Try.prog 21 = some false := by kernel_rfl
@[simp] theorem tzero21 : tzero Try.prog 21 = some (Go.Abs.AV.int Go.IntKind.i32 0) := by kernel_rfl
@[simp] theorem intT21 : intT Try.prog 21 = some .i32 := by kernel_rfl
@[simp] theorem tsz22 : tsz Try.prog 22 = some 2 := by kernel_rfl
@[simp] theorem tbytes22 : tbytes Try.prog 22 = some 2 := by kernel_rfl
@[simp] theorem tagg22 : tagg Try.prog 22 = some true := by kernel_rfl
@[simp] theorem tzero22 : tzero Try.prog 22 = some (Go.Abs.AV.agg [Go.Abs.AV.int Go.IntKind.u8 0, Go.Abs.AV.int Go.IntKind.u8 0]) := by kernel_rfl
@[simp] theorem isArrT22 : isArrT Try.prog 22 = some 2 := by kernel_rfl
@[simp] theorem elemA22 : elemA Try.prog 22 = some (2, 1) := by kernel_rfl
@[simp] theorem tsz23 : tsz Try.prog 23 = some 1 := by kernel_rfl
@[simp] theorem tbytes23 : tbytes Try.prog 23 = some 24 := by kernel_rfl
@[simp] theorem tagg23 : tagg Try.prog 23 = some false := by kernel_rfl
@[simp] theorem tzero23 : tzero Try.prog 23 = some (Go.Abs.AV.slice none 0 0 none) := by kernel_rfl
@[simp] theorem isStrT23 : isStrT Try.prog 23 = false := by kernel_rfl
@[simp] theorem bytesT23 : bytesT Try.prog 23 = false := by kernel_rfl
@[simp] theorem elemT23 : elemT Try.prog 23 = some 37 := by kernel_rfl
@[simp] theorem isSliceT23 : isSliceT Try.prog 23 = true := by kernel_rfl
@[simp] theorem elemS23 : elemS Try.prog 23 = some 4 := by kernel_rfl
@[simp] theorem elemF23 : elemF Try.prog 23 = some (37, 40, 4, [Go.Abs.AV.int Go.IntKind.i64 0, Go.Abs.AV.int Go.IntKind.i64 0, Go.Abs.AV.int Go.IntKind.i64 0, Go.Abs.AV.str []]) := by kernel_rfl
@[simp] theorem tsz24 : tsz Try.prog 24 = some 1 := by kernel_rfl
@[simp] theorem tbytes24 : tbytes Try.prog 24 = some 8 := by kernel_rfl
@[simp] theorem tagg24 : tagg Try.prog 24 = some false := by kernel_rfl
@[simp] theorem tzero24 : tzero Try.prog 24 = some (Go.Abs.AV.ptr none) := by kernel_rfl
@[simp] theorem isPtrT24 : isPtrT Try.prog 24 = true := by kernel_rfl
@[simp] theorem tsz25 : tsz Try.prog 25 = some 1 := by kernel_rfl
@[simp] theorem tbytes25 : tbytes Try.prog 25 = some 8 := by kernel_rfl
@[simp] theorem tagg25 : tagg Try.prog 25 = some false := by kernel_rfl
@[simp] theorem tzero25 : tzero Try.prog 25 = some (Go.Abs.AV.ptr none) := by kernel_rfl
@[simp] theorem isPtrT25 : isPtrT Try.prog 25 = true := by kernel_rfl
@[simp] theorem tsz30 : tsz Try.prog 30 = some 1 := by kernel_rfl
@[simp] theorem tbytes30 : tbytes Try.prog 30 = some 24 := by kernel_rfl
@[simp] theorem tagg30 : tagg Try.prog 30 = some false := by kernel_rfl
@[simp] theorem tzero30 : tzero Try.prog 30 = some (Go.Abs.AV.slice none 0 0 none) := by kernel_rfl
@[simp] theorem isStrT30 : isStrT Try.prog 30 = false := by kernel_rfl
@[simp] theorem bytesT30 : bytesT Try.prog 30 = false := by kernel_rfl
@[simp] theorem elemT30 : elemT Try.prog 30 = some 59 := by kernel_rfl
@[simp] theorem isSliceT30 : isSliceT Try.prog 30 = true := by kernel_rfl
@[simp] theorem elemS30 : elemS Try.prog 30 = some 9 := by kernel_rfl
@[simp] theorem elemF30 : elemF Try.prog 30 = some (59, 128, 9, [Go.Abs.AV.int Go.IntKind.i64 0, Go.Abs.AV.int Go.IntKind.i64 0, Go.Abs.AV.int Go.IntKind.i64 0, Go.Abs.AV.int Go.IntKind.i64 0, Go.Abs.AV.int Go.IntKind.i64 0, Go.Abs.AV.slice none 0 0 none, Go.Abs.AV.slice none 0 0 none, Go.Abs.AV.str [], Go.Abs.AV.slice none 0 0 none]) := by kernel_rfl
@[simp] theorem tsz31 : tsz Try.prog 31 = some 4 := by kernel_rfl
@[simp] theorem tbytes31 : tbytes Try.prog 31 = some 48 := by kernel_rfl
@[simp] theorem tagg31 : tagg Try.prog 31 = some true := by kernel_rfl
@[simp] theorem tzero31 : tzero Try.prog 31 = some (Go.Abs.AV.agg [Go.Abs.AV.slice none 0 0 none, Go.Abs.AV.int Go.IntKind.i64 0, Go.Abs.AV.int Go.IntKind.i64 0, Go.Abs.AV.int Go.IntKind.i64 0]) := by kernel_rfl
@[simp] theorem tsz32 : tsz Try.prog 32 = some 4 := by kernel_rfl
@[simp] theorem tbytes32 : tbytes Try.prog 32 = some 48 := by kernel_rfl
@[simp] theorem tagg32 : tagg Try.prog 32 = some true := by kernel_rfl
@[simp] theorem tzero32 : tzero Try.prog 32 = some (Go.Abs.AV.agg [Go.Abs.AV.slice none 0 0 none, Go.Abs.AV.int Go.IntKind.i64 0, Go.Abs.AV.int Go.IntKind.i64 0, Go.Abs.AV.int Go.IntKind.i64 0]) := by kernel_rfl
@[simp] theorem tsz36 : tsz Try.prog 36 = some 4 := by kernel_rfl
@[simp] theorem tbytes36 : tbytes Try.prog 36 = some 40 := by kernel_rfl
@[simp] theorem tagg36 : tagg Try.prog 36 = some true := by kernel_rfl
@[simp] theorem tzero36 : tzero Try.prog 36 = some (Go.Abs.AV.agg [Go.Abs.AV.int Go.IntKind.i64 0, Go.Abs.AV.int Go.IntKind.i64 0, Go.Abs.AV.int Go.IntKind.i64 0, Go.Abs.AV.str []]) := by kernel_rfl
@[simp] theorem tsz37 : tsz Try.prog 37 = some 4 := by kernel_rfl
@[simp] theorem tbytes37 : tbytes Try.prog 37 = some 40 := by kernel_rfl
@[simp] theorem tagg37 : tagg Try.prog 37 = some true := by kernel_rfl
@[simp] theorem tzero37 : tzero Try.prog 37 = some (Go.Abs.AV.agg [Go.Abs.AV.int Go.IntKind.i64 0, Go.Abs.AV.int Go.IntKind.i64 0, Go.Abs.AV.int Go.IntKind.i64 0, Go.Abs.AV.str []]) := by kernel_rfl
@[simp] theorem tsz38 : tsz Try.prog 38 = some 1 := by kernel_rfl
@[simp] theorem tbytes38 : tbytes Try.prog 38 = some 24 := by kernel_rfl
@[simp] theorem tagg38 : tagg Try.prog 38 = some false := by kernel_rfl
@[simp] theorem tzero38 : tzero Try.prog 38 = some (Go.Abs.AV.slice none 0 0 none) := by kernel_rfl
@[simp] theorem isStrT38 : isStrT Try.prog 38 = false := by kernel_rfl
@[simp] theorem bytesT38 : bytesT Try.prog 38 = false := by kernel_rfl
@[simp] theorem elemT38 : elemT Try.prog 38 = some 3 := by kernel_rfl
@[simp] theorem isSliceT38 : isSliceT Try.prog 38 = true := by kernel_rfl
@[simp] theorem elemS38 : elemS Try.prog 38 = some 1 := by kernel_rfl
@[simp] theorem elemF38 : elemF Try.prog 38 = some (3, 8, 1, [Go.Abs.AV.int Go.IntKind.i64 0]) := by kernel_rfl
@[simp] theorem tsz40 : tsz Try.prog 40 = some 5 := by kernel_rfl
@[simp] theorem tbytes40 : tbytes Try.prog 40 = some 40 := by kernel_rfl
@[simp] theorem tagg40 : tagg Try.prog 40 = some true := by kernel_rfl
@[simp] theorem tzero40 : tzero Try.prog 40 = some (Go.Abs.AV.agg [Go.Abs.AV.int Go.IntKind.i64 0, Go.Abs.AV.int Go.IntKind.i64 0, Go.Abs.AV.int Go.IntKind.i64 0, Go.Abs.AV.int Go.IntKind.i64 0, Go.Abs.AV.int Go.IntKind.i64 0]) := by kernel_rfl
@[simp] theorem tsz41 : tsz Try.prog 41 = some 5 := by kernel_rfl
@[simp] theorem tbytes41 : tbytes Try.prog 41 = some 40 := by kernel_rfl
@[simp] theorem tagg41 : tagg Try.prog 41 = some true := by kernel_rfl
@[simp] theorem tzero41 : tzero Try.prog 41 = some (Go.Abs.AV.agg [Go.Abs.AV.int Go.IntKind.i64 0, Go.Abs.AV.int Go.IntKind.i64 0, Go.Abs.AV.int Go.IntKind.i64 0, Go.Abs.AV.int Go.IntKind.i64 0, Go.Abs.AV.int Go.IntKind.i64 0]) := by kernel_rfl
@[simp] theorem tsz42 : tsz Try.prog 42 = some 1 := by kernel_rfl
@[simp] theorem tbytes42 : tbytes Try.prog 42 = some 8 := by kernel_rfl
@[simp] theorem tagg42 : tagg Try.prog 42 = some false := by kernel_rfl
@[simp] theorem tzero42 : tzero Try.prog 42 = some (Go.Abs.AV.int Go.IntKind.i64 0) := by kernel_rfl
@[simp] theorem intT42 : intT Try.prog 42 = some .i64 := by kernel_rfl
@[simp] theorem tsz48 : tsz Try.prog 48 = some 3 := by kernel_rfl
@[simp] theorem tbytes48 : tbytes Try.prog 48 = some 24 := by kernel_rfl
@[simp] theorem tagg48 : tagg Try.prog 48 = some true := by kernel_rfl
@[simp] theorem tzero48 : tzero Try.prog 48 = some (Go.Abs.AV.agg [Go.Abs.AV.int Go.IntKind.i64 0, Go.Abs.AV.int Go.IntKind.i64 0, Go.Abs.AV.int Go.IntKind.i64 0]) := by kernel_rfl
@[simp] theorem isArrT48 : isArrT Try.prog 48 = some 3 := by kernel_rfl
@[simp] theorem elemA48 : elemA Try.prog 48 = some (3, 1) := by kernel_rfl
@[simp] theorem tsz49 : tsz Try.prog 49 = some 1 := by kernel_rfl
@[simp] theorem tbytes49 : tbytes Try.prog 49 = some 24 := by kernel_rfl
@[simp] theorem tagg49 : tagg Try.prog 49 = some false := by kernel_rfl
@[simp] theorem tzero49 : tzero Try.prog 49 = some (Go.Abs.AV.slice none 0 0 none) := by kernel_rfl
@[simp] theorem isStrT49 : isStrT Try.prog 49 = false := by kernel_rfl
@[simp] theorem bytesT49 : bytesT Try.prog 49 = true := by kernel_rfl
@[simp] theorem elemT49 : elemT Try.prog 49 = some 5 := by kernel_rfl
@[simp] theorem isSliceT49 : isSliceT Try.prog 49 = true := by kernel_rfl
@[simp] theorem elemS49 : elemS Try.prog 49 = some 1 := by kernel_rfl
@[simp] theorem elemF49 : elemF Try.prog 49 = some (5, 1, 1, [Go.Abs.AV.int Go.IntKind.u8 0]) := by kernel_rfl
@[simp] theorem tsz54 : tsz Try.prog 54 = some 1 := by kernel_rfl
@[simp] theorem tbytes54 : tbytes Try.prog 54 = some 24 := by kernel_rfl
@[simp] theorem tagg54 : tagg Try.prog 54 = some false := by kernel_rfl
@[simp] theorem tzero54 : tzero Try.prog 54 = some (Go.Abs.AV.slice none 0 0 none) := by kernel_rfl
@[simp] theorem isStrT54 : isStrT Try.prog 54 = false := by kernel_rfl
@[simp] theorem bytesT54 : bytesT Try.prog 54 = false := by kernel_rfl
@[simp] theorem elemT54 : elemT Try.prog 54 = some 4 := by kernel_rfl
@[simp] theorem isSliceT54 : isSliceT Try.prog 54 = true := by kernel_rfl
@[simp] theorem elemS54 : elemS Try.prog 54 = some 1 := by kernel_rfl
@[simp] theorem elemF54 : elemF Try.prog 54 = some (4, 1, 1, [Go.Abs.AV.bool false]) := by kernel_rfl
@[simp] theorem tsz55 : tsz Try.prog 55 = some 2 := by kernel_rfl
@[simp] theorem tbytes55 : tbytes Try.prog 55 = some 48 := by kernel_rfl
@[simp] theorem tagg55 : tagg Try.prog 55 = some true := by kernel_rfl
@[simp] theorem tzero55 : tzero Try.prog 55 = some (Go.Abs.AV.agg [Go.Abs.AV.slice none 0 0 none, Go.Abs.AV.slice none 0 0 none]) := by kernel_rfl
@[simp] theorem tsz56 : tsz Try.prog 56 = some 2 := by kernel_rfl
@[simp] theorem tbytes56 : tbytes Try.prog 56 = some 48 := by kernel_rfl
@[simp] theorem tagg56 : tagg Try.prog 56 = some true := by kernel_rfl
@[simp] theorem tzero56 : tzero Try.prog 56 = some (Go.Abs.AV.agg [Go.Abs.AV.slice none 0 0 none, Go.Abs.AV.slice none 0 0 none]) := by kernel_rfl
@[simp] theorem tsz57 : tsz Try.prog 57 = some 1 := by kernel_rfl
@[simp] theorem tbytes57 : tbytes Try.prog 57 = some 24 := by kernel_rfl
@[simp] theorem tagg57 : tagg Try.prog 57 = some false := by kernel_rfl
@[simp] theorem tzero57 : tzero Try.prog 57 = some (Go.Abs.AV.slice none 0 0 none) := by kernel_rfl
@[simp] theorem isStrT57 : isStrT Try.prog 57 = false := by kernel_rfl
@[simp] theorem bytesT57 : bytesT Try.prog 57 = false := by kernel_rfl
@[simp] theorem elemT57 : elemT Try.prog 57 = some 158 := by kernel_rfl
@[simp] theorem isSliceT57 : isSliceT Try.prog 57 = true := by kernel_rfl
@[simp] theorem elemS57 : elemS Try.prog 57 = some 2 := by kernel_rfl
@[simp] theorem elemF57 : elemF Try.prog 57 = some (158, 24, 2, [Go.Abs.AV.str [], Go.Abs.AV.int Go.IntKind.i64 0]) := by kernel_rfl
@[simp] theorem tsz58 : tsz Try.prog 58 = some 9 := by kernel_rfl
@[simp] theorem tbytes58 : tbytes Try.prog 58 = some 128 := by kernel_rfl
@[simp] theorem tagg58 : tagg Try.prog 58 = some true := by kernel_rfl
@[simp] theorem tzero58 : tzero Try.prog 58 = some (Go.Abs.AV.agg [Go.Abs.AV.int Go.IntKind.i64 0, Go.Abs.AV.int Go.IntKind.i64 0, Go.Abs.AV.int Go.IntKind.i64 0, Go.Abs.AV.int Go.IntKind.i64 0, Go.Abs.AV.int Go.IntKind.i64 0, Go.Abs.AV.slice none 0 0 none, Go.Abs.AV.slice none 0 0 none, Go.Abs.AV.str [], Go.Abs.AV.slice none 0 0 none]) := by kernel_rfl
@[simp] theorem tsz59 : tsz Try.prog 59 = some 9 := by kernel_rfl
@[simp] theorem tbytes59 : tbytes Try.prog 59 = some 128 := by kernel_rfl
@[simp] theorem tagg59 : tagg Try.prog 59 = some true := by kernel_rfl
@[simp] theorem tzero59 : tzero Try.prog 59 = some (Go.Abs.AV.agg [Go.Abs.AV.int Go.IntKind.i64 0, Go.Abs.AV.int Go.IntKind.i64 0, Go.Abs.AV.int Go.IntKind.i64 0, Go.Abs.AV.int Go.IntKind.i64 0, Go.Abs.AV.int Go.IntKind.i64 0, Go.Abs.AV.slice none 0 0 none, Go.Abs.AV.slice none 0 0 none, Go.Abs.AV.str [], Go.Abs.AV.slice none 0 0 none]) := by kernel_rfl
@[simp] theorem tsz69 : tsz Try.prog 69 = some 1 := by kernel_rfl
@[simp] theorem tbytes69 : tbytes Try.prog 69 = some 8 := by kernel_rfl
@[simp] theorem tagg69 : tagg Try.prog 69 = some false := by kernel_rfl
@[simp] theorem tzero69 : tzero Try.prog 69 = some (Go.Abs.AV.ptr none) := by kernel_rfl
@[simp] theorem isPtrT69 : isPtrT Try.prog 69 = true := by kernel_rfl
@[simp] theorem tsz72 : tsz Try.prog 72 = some 1 := by kernel_rfl
@[simp] theorem tbytes72 : tbytes Try.prog 72 = some 8 := by kernel_rfl
@[simp] theorem tagg72 : tagg Try.prog 72 = some false := by kernel_rfl
@[simp] theorem tzero72 : tzero Try.prog 72 = some (Go.Abs.AV.map none) := by kernel_rfl
@[simp] theorem isMapT72 : isMapT Try.prog 72 = true := by kernel_rfl
@[simp] theorem mapT72 : mapT Try.prog 72 = true := by kernel_rfl
@[simp] theorem keyT72 : keyT Try.prog 72 = some (3, 77) := by kernel_rfl
@[simp] theorem tsz73 : tsz Try.prog 73 = some 5 := by kernel_rfl
@[simp] theorem tbytes73 : tbytes Try.prog 73 = some 40 := by kernel_rfl
@[simp] theorem tagg73 : tagg Try.prog 73 = some true := by kernel_rfl
@[simp] theorem tzero73 : tzero Try.prog 73 = some (Go.Abs.AV.agg [Go.Abs.AV.map none, Go.Abs.AV.int Go.IntKind.i64 0, Go.Abs.AV.int Go.IntKind.i64 0, Go.Abs.AV.int Go.IntKind.i64 0, Go.Abs.AV.int Go.IntKind.i64 0]) := by kernel_rfl
@[simp] theorem tsz74 : tsz Try.prog 74 = some 5 := by kernel_rfl
@[simp] theorem tbytes74 : tbytes Try.prog 74 = some 40 := by kernel_rfl
@[simp] theorem tagg74 : tagg Try.prog 74 = some true := by kernel_rfl
@[simp] theorem tzero74 : tzero Try.prog 74 = some (Go.Abs.AV.agg [Go.Abs.AV.map none, Go.Abs.AV.int Go.IntKind.i64 0, Go.Abs.AV.int Go.IntKind.i64 0, Go.Abs.AV.int Go.IntKind.i64 0, Go.Abs.AV.int Go.IntKind.i64 0]) := by kernel_rfl
@[simp] theorem tsz77 : tsz Try.prog 77 = some 1 := by kernel_rfl
@[simp] theorem tbytes77 : tbytes Try.prog 77 = some 8 := by kernel_rfl
@[simp] theorem tagg77 : tagg Try.prog 77 = some false := by kernel_rfl
@[simp] theorem tzero77 : tzero Try.prog 77 = some (Go.Abs.AV.ptr none) := by kernel_rfl
@[simp] theorem isPtrT77 : isPtrT Try.prog 77 = true := by kernel_rfl
@[simp] theorem tsz80 : tsz Try.prog 80 = some 1 := by kernel_rfl
@[simp] theorem tbytes80 : tbytes Try.prog 80 = some 8 := by kernel_rfl
@[simp] theorem tagg80 : tagg Try.prog 80 = some false := by kernel_rfl
@[simp] theorem tzero80 : tzero Try.prog 80 = some (Go.Abs.AV.ptr none) := by kernel_rfl
@[simp] theorem isPtrT80 : isPtrT Try.prog 80 = true := by kernel_rfl
@[simp] theorem tsz81 : tsz Try.prog 81 = some 6 := by kernel_rfl
@[simp] theorem tbytes81 : tbytes Try.prog 81 = some 56 := by kernel_rfl
@[simp] theorem tagg81 : tagg Try.prog 81 = some true := by kernel_rfl
@[simp] theorem tzero81 : tzero Try.prog 81 = some (Go.Abs.AV.agg [Go.Abs.AV.int Go.IntKind.i64 0, Go.Abs.AV.int Go.IntKind.i64 0, Go.Abs.AV.int Go.IntKind.i64 0, Go.Abs.AV.ptr none, Go.Abs.AV.ptr none, Go.Abs.AV.str []]) := by kernel_rfl
@[simp] theorem tsz82 : tsz Try.prog 82 = some 6 := by kernel_rfl
@[simp] theorem tbytes82 : tbytes Try.prog 82 = some 56 := by kernel_rfl
@[simp] theorem tagg82 : tagg Try.prog 82 = some true := by kernel_rfl
@[simp] theorem tzero82 : tzero Try.prog 82 = some (Go.Abs.AV.agg [Go.Abs.AV.int Go.IntKind.i64 0, Go.Abs.AV.int Go.IntKind.i64 0, Go.Abs.AV.int Go.IntKind.i64 0, Go.Abs.AV.ptr none, Go.Abs.AV.ptr none, Go.Abs.AV.str []]) := by kernel_rfl
@[simp] theorem tsz96 : tsz Try.prog 96 = some 1 := by kernel_rfl
@[simp] theorem tbytes96 : tbytes Try.prog 96 = some 8 := by kernel_rfl
@[simp] theorem tagg96 : tagg Try.prog 96 = some false := by kernel_rfl
@[simp] theorem tzero96 : tzero Try.prog 96 = some (Go.Abs.AV.ptr none) := by kernel_rfl
@[simp] theorem isPtrT96 : isPtrT Try.prog 96 = true := by kernel_rfl
@[simp] theorem tsz104 : tsz Try.prog 104 = some 1 := by kernel_rfl
@[simp] theorem tbytes104 : tbytes Try.prog 104 = some 8 := by kernel_rfl
@[simp] theorem tagg104 : tagg Try.prog 104 = some false := by kernel_rfl
@[simp] theorem tzero104 : tzero Try.prog 104 = some (Go.Abs.AV.int Go.IntKind.u64 0) := by kernel_rfl
@[simp] theorem intT104 : intT Try.prog 104 = some .u64 := by kernel_rfl
@[simp] theorem tsz105 : tsz Try.prog 105 = some 1 := by kernel_rfl
@[simp] theorem tbytes105 : tbytes Try.prog 105 = some 8 := by kernel_rfl
@[simp] theorem tagg105 : tagg Try.prog 105 = some false := by kernel_rfl
@[simp] theorem tzero105 : tzero Try.prog 105 = some (Go.Abs.AV.map none) := by kernel_rfl
@[simp] theorem isMapT105 : isMapT Try.prog 105 = true := by kernel_rfl
@[simp] theorem mapT105 : mapT Try.prog 105 = true := by kernel_rfl
@[simp] theorem keyT105 : keyT Try.prog 105 = some (3, 118) := by kernel_rfl
@[simp] theorem tsz106 : tsz Try.prog 106 = some 2 := by kernel_rfl
@[simp] theorem tbytes106 : tbytes Try.prog 106 = some 16 := by kernel_rfl
@[simp] theorem tagg106 : tagg Try.prog 106 = some true := by kernel_rfl
@[simp] theorem tzero106 : tzero Try.prog 106 = some (Go.Abs.AV.agg [Go.Abs.AV.map none, Go.Abs.AV.int Go.IntKind.i64 0]) := by kernel_rfl
@[simp] theorem tsz107 : tsz Try.prog 107 = some 2 := by kernel_rfl
@[simp] theorem tbytes107 : tbytes Try.prog 107 = some 16 := by kernel_rfl
@[simp] theorem tagg107 : tagg Try.prog 107 = some true := by kernel_rfl
@[simp] theorem tzero107 : tzero Try.prog 107 = some (Go.Abs.AV.agg [Go.Abs.AV.map none, Go.Abs.AV.int Go.IntKind.i64 0]) := by kernel_rfl
@[simp] theorem tsz108 : tsz Try.prog 108 = some 1 := by kernel_rfl
@[simp] theorem tbytes108 : tbytes Try.prog 108 = some 24 := by kernel_rfl
@[simp] theorem tagg108 : tagg Try.prog 108 = some false := by kernel_rfl
@[simp] theorem tzero108 : tzero Try.prog 108 = some (Go.Abs.AV.slice none 0 0 none) := by kernel_rfl
@[simp] theorem isStrT108 : isStrT Try.prog 108 = false := by kernel_rfl
@[simp] theorem bytesT108 : bytesT Try.prog 108 = false := by kernel_rfl
@[simp] theorem elemT108 : elemT Try.prog 108 = some 160 := by kernel_rfl
@[simp] theorem isSliceT108 : isSliceT Try.prog 108 = true := by kernel_rfl
@[simp] theorem elemS108 : elemS Try.prog 108 = some 2 := by kernel_rfl
@[simp] theorem elemF108 : elemF Try.prog 108 = some (160, 24, 2, [Go.Abs.AV.str [], Go.Abs.AV.int Go.IntKind.i64 0]) := by kernel_rfl
@[simp] theorem tsz109 : tsz Try.prog 109 = some 1 := by kernel_rfl
@[simp] theorem tbytes109 : tbytes Try.prog 109 = some 24 := by kernel_rfl
@[simp] theorem tagg109 : tagg Try.prog 109 = some true := by kernel_rfl
@[simp] theorem tzero109 : tzero Try.prog 109 = some (Go.Abs.AV.agg [Go.Abs.AV.slice none 0 0 none]) := by kernel_rfl
@[simp] theorem tsz110 : tsz Try.prog 110 = some 1 := by kernel_rfl
@[simp] theorem tbytes110 : tbytes Try.prog 110 = some 24 := by kernel_rfl
@[simp] theorem tagg110 : tagg Try.prog 110 = some true := by kernel_rfl
@[simp] theorem tzero110 : tzero Try.prog 110 = some (Go.Abs.AV.agg [Go.Abs.AV.slice none 0 0 none]) := by kernel_rfl
@[simp] theorem tsz112 : tsz Try.prog 112 = some 1 := by kernel_rfl
@[simp] theorem tbytes112 : tbytes Try.prog 112 = some 24 := by kernel_rfl
@[simp] theorem tagg112 : tagg Try.prog 112 = some false := by kernel_rfl
@[simp] theorem tzero112 : tzero Try.prog 112 = some (Go.Abs.AV.slice none 0 0 none) := by kernel_rfl
@[simp] theorem isStrT112 : isStrT Try.prog 112 = false := by kernel_rfl
@[simp] theorem bytesT112 : bytesT Try.prog 112 = false := by kernel_rfl
@[simp] theorem elemT112 : elemT Try.prog 112 = some 115 := by kernel_rfl
@[simp] theorem isSliceT112 : isSliceT Try.prog 112 = true := by kernel_rfl
@[simp] theorem elemS112 : elemS Try.prog 112 = some 3 := by kernel_rfl
@[simp] theorem elemF112 : elemF Try.prog 112 = some (115, 24, 3, [Go.Abs.AV.int Go.IntKind.i64 0, Go.Abs.AV.int Go.IntKind.i64 0, Go.Abs.AV.int Go.IntKind.i64 0]) := by kernel_rfl
@[simp] theorem tsz114 : tsz Try.prog 114 = some 3 := by kernel_rfl
@[simp] theorem tbytes114 : tbytes Try.prog 114 = some 24 := by kernel_rfl
@[simp] theorem tagg114 : tagg Try.prog 114 = some true := by kernel_rfl
@[simp] theorem tzero114 : tzero Try.prog 114 = some (Go.Abs.AV.agg [Go.Abs.AV.int Go.IntKind.i64 0, Go.Abs.AV.int Go.IntKind.i64 0, Go.Abs.AV.int Go.IntKind.i64 0]) := by kernel_rfl
@[simp] theorem tsz115 : tsz Try.prog 115 = some 3 := by kernel_rfl
@[simp] theorem tbytes115 : tbytes Try.prog 115 = some 24 := by kernel_rfl
@[simp] theorem tagg115 : tagg Try.prog 115 = some true := by kernel_rfl
@[simp] theorem tzero115 : tzero Try.prog 115 = some (Go.Abs.AV.agg [Go.Abs.AV.int Go.IntKind.i64 0, Go.Abs.AV.int Go.IntKind.i64 0, Go.Abs.AV.int Go.IntKind.i64 0]) := by kernel_rfl
@[simp] theorem tsz116 : tsz Try.prog 116 = some 64 := by kernel_rfl
@[simp] theorem tbytes116 : tbytes Try.prog 116 = some 64 := by kernel_rfl
@[simp] theorem tagg116 : tagg Try.prog 116 = some true := by kernel_rfl
@[simp] theorem tzero116 : tzero Try.prog 116 = some (.agg (cellsOfBytes (zeroB 64))) := by kernel_rfl
@[simp] theorem isArrT116 : isArrT Try.prog 116 = some 64 := by kernel_rfl
@[simp] theorem elemA116 : elemA Try.prog 116 = some (64, 1) := by kernel_rfl
@[simp] theorem tsz117 : tsz Try.prog 117 = some 64 := by kernel_rfl
@[simp] theorem tbytes117 : tbytes Try.prog 117 = some 64 := by kernel_rfl
@[simp] theorem tagg117 : tagg Try.prog 117 = some true := by kernel_rfl
@[simp] theorem tzero117 : tzero Try.prog 117 = some (.agg (cellsOfBytes (zeroB 64))) := by kernel_rfl
@[simp] theorem isArrT117 : isArrT Try.prog 117 = some 64 := by kernel_rfl
@[simp] theorem elemA117 : elemA Try.prog 117 = some (64, 1) := by kernel_rfl
@[simp] theorem tsz118 : tsz Try.prog 118 = some 1 := by kernel_rfl
@[simp] theorem tbytes118 : tbytes Try.prog 118 = some 8 := by kernel_rfl
@[simp] theorem tagg118 : tagg Try.prog 118 = some false := by kernel_rfl
@[simp] theorem tzero118 : tzero Try.prog 118 = some (Go.Abs.AV.ptr none) := by kernel_rfl
@[simp] theorem isPtrT118 : isPtrT Try.prog 118 = true := by kernel_rfl
@[simp] theorem tsz124 : tsz Try.prog 124 = some 1 := by kernel_rfl
@[simp] theorem tbytes124 : tbytes Try.prog 124 = some 8 := by kernel_rfl
@[simp] theorem tagg124 : tagg Try.prog 124 = some false := by kernel_rfl
@[simp] theorem tzero124 : tzero Try.prog 124 = some (Go.Abs.AV.int Go.IntKind.i64 0) := by kernel_rfl
@[simp] theorem intT124 : intT Try.prog 124 = some .i64 := by kernel_rfl
@[simp] theorem tsz132 : tsz Try.prog 132 = some 1 := by kernel_rfl
@[simp] theorem tbytes132 : tbytes Try.prog 132 = some 4 := by kernel_rfl
@[simp] theorem tagg132 : tagg Try.prog 132 = some false := by kernel_rfl
@[simp] theorem tzero132 : tzero Try.prog 132 = some (Go.Abs.AV.int Go.IntKind.u32 0) := by kernel_rfl
@[simp] theorem intT132 : intT Try.prog 132 = some .u32 := by kernel_rfl
@[simp] theorem tsz134 : tsz Try.prog 134 = some 1 := by kernel_rfl
@[simp] theorem tbytes134 : tbytes Try.prog 134 = some 8 := by kernel_rfl
@[simp] theorem tagg134 : tagg Try.prog 134 = some false := by kernel_rfl
@[simp] theorem tzero134 : tzero Try.prog 134 = some (Go.Abs.AV.int Go.IntKind.u64 0) := by kernel_rfl
@[simp] theorem intT134 : intT Try.prog 134 = some .u64 := by kernel_rfl
@[simp] theorem tsz136 : tsz Try.prog 136 = some 1 := by kernel_rfl
@[simp] theorem tbytes136 : tbytes Try.prog 136 = some 8 := by kernel_rfl
@[simp] theorem tagg136 : tagg Try.prog 136 = some false := by kernel_rfl
@[simp] theorem tzero136 : tzero Try.prog 136 = some (Go.Abs.AV.int Go.IntKind.u64 0) := by kernel_rfl
@[simp] theorem intT136 : intT Try.prog 136 = some .u64 := by kernel_rfl
@[simp] theorem tsz141 : tsz Try.prog 141 = some 1 := by kernel_rfl
@[simp] theorem tbytes141 : tbytes Try.prog 141 = some 8 := by kernel_rfl
@[simp] theorem tagg141 : tagg Try.prog 141 = some false := by kernel_rfl
@[simp] theorem tzero141 : tzero Try.prog 141 = some (Go.Abs.AV.ptr none) := by kernel_rfl
@[simp] theorem isPtrT141 : isPtrT Try.prog 141 = true := by kernel_rfl
@[simp] theorem tsz144 : tsz Try.prog 144 = some 4 := by kernel_rfl
@[simp] theorem tbytes144 : tbytes Try.prog 144 = some 40 := by kernel_rfl
@[simp] theorem tagg144 : tagg Try.prog 144 = some true := by kernel_rfl
@[simp] theorem tzero144 : tzero Try.prog 144 = some (Go.Abs.AV.agg [Go.Abs.AV.ptr none, Go.Abs.AV.ptr none, Go.Abs.AV.ptr none, Go.Abs.AV.str []]) := by kernel_rfl
@[simp] theorem tsz145 : tsz Try.prog 145 = some 4 := by kernel_rfl
@[simp] theorem tbytes145 : tbytes Try.prog 145 = some 40 := by kernel_rfl
@[simp] theorem tagg145 : tagg Try.prog 145 = some true := by kernel_rfl
@[simp] theorem tzero145 : tzero Try.prog 145 = some (Go.Abs.AV.agg [Go.Abs.AV.ptr none, Go.Abs.AV.ptr none, Go.Abs.AV.ptr none, Go.Abs.AV.str []]) := by kernel_rfl
@[simp] theorem tsz146 : tsz Try.prog 146 = some 0 := by kernel_rfl
@[simp] theorem tbytes146 : tbytes Try.prog 146 = some 0 := by kernel_rfl
@[simp] theorem tagg146 : tagg Try.prog 146 = some true := by kernel_rfl
@[simp] theorem tzero146 : tzero Try.prog 146 = some (Go.Abs.AV.agg []) := by kernel_rfl
@[simp] theorem isArrT146 : isArrT Try.prog 146 = some 0 := by kernel_rfl
@[simp] theorem elemA146 : elemA Try.prog 146 = some (0, 1) := by kernel_rfl
@[simp] theorem tsz147 : tsz Try.prog 147 = some 0 := by kernel_rfl
@[simp] theorem tbytes147 : tbytes Try.prog 147 = some 0 := by kernel_rfl
@[simp] theorem tagg147 : tagg Try.prog 147 = some true := by kernel_rfl
@[simp] theorem tzero147 : tzero Try.prog 147 = some (Go.Abs.AV.agg []) := by kernel_rfl
@[simp] theorem tsz148 : tsz Try.prog 148 = some 0 := by kernel_rfl
@[simp] theorem tbytes148 : tbytes Try.prog 148 = some 0 := by kernel_rfl
@[simp] theorem tagg148 : tagg Try.prog 148 = some true := by kernel_rfl
@[simp] theorem tzero148 : tzero Try.prog 148 = some (Go.Abs.AV.agg []) := by kernel_rfl
@[simp] theorem tsz149 : tsz Try.prog 149 = some 1 := by kernel_rfl
@[simp] theorem tbytes149 : tbytes Try.prog 149 = some 1 := by kernel_rfl
@[simp] theorem tagg149 : tagg Try.prog 149 = some false := by kernel_rfl
@[simp] theorem tzero149 : tzero Try.prog 149 = some (Go.Abs.AV.int Go.IntKind.u8 0) := by kernel_rfl
@[simp] theorem intT149 : intT Try.prog 149 = some .u8 := by kernel_rfl
@[simp] theorem tsz150 : tsz Try.prog 150 = some 1 := by kernel_rfl
@[simp] theorem tbytes150 : tbytes Try.prog 150 = some 1 := by kernel_rfl
@[simp] theorem tagg150 : tagg Try.prog 150 = some false := by kernel_rfl
@[simp] theorem tzero150 : tzero Try.prog 150 = some (Go.Abs.AV.int Go.IntKind.u8 0) := by kernel_rfl
@[simp] theorem intT150 : intT Try.prog 150 = some .u8 := by kernel_rfl
@[simp] theorem tsz152 : tsz Try.prog 152 = some 1 := by kernel_rfl
@[simp] theorem tbytes152 : tbytes Try.prog 152 = some 8 := by kernel_rfl
@[simp] theorem tagg152 : tagg Try.prog 152 = some false := by kernel_rfl
@[simp] theorem tzero152 : tzero Try.prog 152 = some (Go.Abs.AV.ptr none) := by kernel_rfl
@[simp] theorem isPtrT152 : isPtrT Try.prog 152 = true := by kernel_rfl
@[simp] theorem tsz153 : tsz Try.prog 153 = some 1 := by kernel_rfl
@[simp] theorem tbytes153 : tbytes Try.prog 153 = some 4 := by kernel_rfl
@[simp] theorem tagg153 : tagg Try.prog 153 = some false := by kernel_rfl
@[simp] theorem tzero153 : tzero Try.prog 153 = some (Go.Abs.AV.int Go.IntKind.i32 0) := by kernel_rfl
@[simp] theorem intT153 : intT Try.prog 153 = some .i32 := by kernel_rfl
@[simp] theorem tsz154 : tsz Try.prog 154 = some 1 := by kernel_rfl
@[simp] theorem tbytes154 : tbytes Try.prog 154 = some 4 := by kernel_rfl
@[simp] theorem tagg154 : tagg Try.prog 154 = some false := by kernel_rfl
@[simp] theorem tzero154 : tzero Try.prog 154 = some (Go.Abs.AV.int Go.IntKind.i32 0) := by kernel_rfl
@[simp] theorem intT154 : intT Try.prog 154 = some .i32 := by kernel_rfl
@[simp] theorem tsz155 : tsz Try.prog 155 = some 11 := by kernel_rfl
@[simp] theorem tbytes155 : tbytes Try.prog 155 = some 48 := by kernel_rfl
@[simp] theorem tagg155 : tagg Try.prog 155 = some true := by kernel_rfl
@[simp] theorem tzero155 : tzero Try.prog 155 = some (Go.Abs.AV.agg [Go.Abs.AV.int Go.IntKind.u64 0, Go.Abs.AV.int Go.IntKind.u64 0, Go.Abs.AV.int Go.IntKind.u32 0, Go.Abs.AV.int Go.IntKind.u8 0, Go.Abs.AV.int Go.IntKind.u8 0, Go.Abs.AV.int Go.IntKind.u8 0, Go.Abs.AV.int Go.IntKind.u8 0, Go.Abs.AV.nilFunc, Go.Abs.AV.ptr none, Go.Abs.AV.int Go.IntKind.i32 0, Go.Abs.AV.int Go.IntKind.i32 0]) := by kernel_rfl
@[simp] theorem tsz156 : tsz Try.prog 156 = some 11 := by kernel_rfl
@[simp] theorem tbytes156 : tbytes Try.prog 156 = some 48 := by kernel_rfl
@[simp] theorem tagg156 : tagg Try.prog 156 = some true := by kernel_rfl
@[simp] theorem tzero156 : tzero Try.prog 156 = some (Go.Abs.AV.agg [Go.Abs.AV.int Go.IntKind.u64 0, Go.Abs.AV.int Go.IntKind.u64 0, Go.Abs.AV.int Go.IntKind.u32 0, Go.Abs.AV.int Go.IntKind.u8 0, Go.Abs.AV.int Go.IntKind.u8 0, Go.Abs.AV.int Go.IntKind.u8 0, Go.Abs.AV.int Go.IntKind.u8 0, Go.Abs.AV.nilFunc, Go.Abs.AV.ptr none, Go.Abs.AV.int Go.IntKind.i32 0, Go.Abs.AV.int Go.IntKind.i32 0]) := by kernel_rfl
@[simp] theorem tsz157 : tsz Try.prog 157 = some 2 := by kernel_rfl
@[simp] theorem tbytes157 : tbytes Try.prog 157 = some 24 := by kernel_rfl
@[simp] theorem tagg157 : tagg Try.prog 157 = some true := by kernel_rfl
@[simp] theorem tzero157 : tzero Try.prog 157 = some (Go.Abs.AV.agg [Go.Abs.AV.str [], Go.Abs.AV.int Go.IntKind.i64 0]) := by kernel_rfl
@[simp] theorem tsz158 : tsz Try.prog 158 = some 2 := by kernel_rfl
@[simp] theorem tbytes158 : tbytes Try.prog 158 = some 24 := by kernel_rfl
@[simp] theorem tagg158 : tagg Try.prog 158 = some true := by kernel_rfl
@[simp] theorem tzero158 : tzero Try.prog 158 = some (Go.Abs.AV.agg [Go.Abs.AV.str [], Go.Abs.AV.int Go.IntKind.i64 0]) := by kernel_rfl
@[simp] theorem tsz159 : tsz Try.prog 159 = some 2 := by kernel_rfl
@[simp] theorem tbytes159 : tbytes Try.prog 159 = some 24 := by kernel_rfl
@[simp] theorem tagg159 : tagg Try.prog 159 = some true := by kernel_rfl
@[simp] theorem tzero159 : tzero Try.prog 159 = some (Go.Abs.AV.agg [Go.Abs.AV.str [], Go.Abs.AV.int Go.IntKind.i64 0]) := by kernel_rfl
@[simp] theorem tsz160 : tsz Try.prog 160 = some 2 := by kernel_rfl
@[simp] theorem tbytes160 : tbytes Try.prog 160 = some 24 := by kernel_rfl
@[simp] theorem tagg160 : tagg Try.prog 160 = some true := by kernel_rfl
@[simp] theorem tzero160 : tzero Try.prog 160 = some (Go.Abs.AV.agg [Go.Abs.AV.str [], Go.Abs.AV.int Go.IntKind.i64 0]) := by kernel_rfl
@[simp] theorem tsz161 : tsz Try.prog 161 = some 1 := by kernel_rfl
@[simp] theorem tbytes161 : tbytes Try.prog 161 = some 8 := by kernel_rfl
@[simp] theorem tagg161 : tagg Try.prog 161 = some false := by kernel_rfl
@[simp] theorem tzero161 : tzero Try.prog 161 = some (Go.Abs.AV.ptr none) := by kernel_rfl

end Go.Abs
