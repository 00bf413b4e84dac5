/- Texts on this program, joined. -/
import Derived.Test.YtcafkmhlpgajoaaOwn07
import Derived.Test.YtcafkmhlpgajoaaKit08
import Derived.Test.YtcafkmhlpgajoaaKit04
import Derived.Test.YtcafkmhlpgajoaaRows
import Derived.WalkKit
import Derived.ProofKit
import Derived.OpenShut
import Derived.ShutString
import Derived.ChangeOld
import Derived.Below

/- Chapter 12: the reference, walked. -/
namespace Go.Abs
open Go.Proofs
set_option maxRecDepth 100000
set_option linter.unusedVariables false
set_option linter.unusedSimpArgs false

theorem place_first {l : List FileT} {id : Int} {i : Nat} {x : FileT} (hx : l[i]? = some x) (hid : x.id = id) (hb : ∀ (k : Nat) (y : FileT), l[k]? = some y → k < i → y.id ≠ id) : placeF l id = some i := by
  unfold placeF
  rw [List.findIdx?_eq_some_iff_getElem]
  have hi := lt_of_get? hx
  have hxi : l[i] = x := by rw [List.getElem?_eq_getElem hi] at hx; injection hx
  refine ⟨hi, by simp [hxi, hid], fun j hj => ?_⟩
  have := hb j _ (List.getElem?_eq_getElem (by omega)) hj
  simpa using this
theorem refAt_ok {H : Heap} {p : Nat} {slv : AV} {l : List FileT} {next most : Int} (h : TabR H 46 p slv l next most) (hn : l.length ≤ 1000) (id : Int) :
    Cl Try.prog pr12 19 [.ptr (some (p, 0)), .int .i64 id] H fun w H' => w = .int .i64 (match placeF l id with | some i => (i : Int) | none => -1) ∧ H' = H := by
  have ht := h.t
  obtain ⟨a, cap, ex, rfl, hc, hex⟩ := h.own.form
  refine Cl.enter Try.func19 rfl rfl Try.ntmps19 (by simp) ?_
  refine walk none0 ?_
  refine Wq.loop (fun m e H' => ∃ i : Nat, i ≤ l.length ∧ m = l.length - i ∧ H' = H ∧ e 0 = .ptr (some (p, 0)) ∧ e 1 = .int .i64 id ∧ e 5 = .int .i64 i ∧ ∀ (k : Nat) (y : FileT), l[k]? = some y → k < i → y.id ≠ id) l.length ?_ ?_
  · exact ⟨0, by omega, by omega, rfl, by simp, by simp, by simp, fun k y _ h => by omega⟩
  · rintro m e H' ⟨i, hi, rfl, rfl, g0, g1, g5, hlo⟩
    by_cases hlt : i < l.length
    · obtain ⟨x, hx⟩ := get_lt hlt
      obtain ⟨b, o, c, rfl, hb1, hb2, hb3, hb4, r0, r3, r4, r5⟩ := h.file hx
      by_cases he : x.id = id
      · refine walk (both g0 (both g1 (both g5 (both ht (both hlt (both hb2 (both r0 he))))))) ?_
        rw [place_first hx he hlo]
        exact ⟨rfl, rfl⟩
      · refine walk (both g0 (both g1 (both g5 (both ht (both hlt (both hb2 (both r0 he))))))) ?_
        refine Roundq.normal (l.length - (i + 1)) (by omega) ⟨i + 1, by omega, rfl, rfl, by simp [g0], by simp [g1], by simp, fun k y hy hky => ?_⟩
        rcases Nat.lt_or_ge k i with h' | h'
        · exact hlo k y hy h'
        · obtain rfl : k = i := by omega
          rw [hx] at hy; injection hy with hy; subst hy; exact he
    · refine walk (both g0 (both g1 (both g5 (both ht hlt)))) ?_
      rw [place_none]
      · exact ⟨rfl, rfl⟩
      · intro y hy e
        obtain ⟨k, hk⟩ := List.mem_iff_getElem?.1 hy
        exact hlo k y hk (by have := lt_of_get? hk; omega) e
theorem refHold_ok {H : Heap} {p : Nat} {slv : AV} {l : List FileT} {next most : Int} (h : TabR H 46 p slv l next most) (g : GoodF l next most) (hn : next ≤ 100000) (id : Int) :
    Cl Try.prog pr12 26 [.ptr (some (p, 0)), .int .i64 id] H fun w H' => w = .int .i64 (updF l id fun x => { x with refs := x.refs + 1 }).2 ∧ Upd (fun z => slBlock slv = some z) H H' ∧ TabR H' 46 p slv (updF l id fun x => { x with refs := x.refs + 1 }).1 next most := by
  have ht := h.t
  have hf := g.fit
  refine Cl.enter Try.func26 rfl rfl Try.ntmps26 (by simp) ?_
  refine walk none0 ?_
  refine (refAt_ok h (by omega) id).mono fun w H1 _ ⟨e1, e2⟩ => ?_
  subst e1; subst e2
  obtain ⟨a, cap, ex, rfl, hc, hex⟩ := h.own.form
  cases hp : placeF l id with
  | none =>
    rw [updF_none hp]
    refine walk none0 ?_
    exact ⟨rfl, Upd.rfl, h⟩
  | some i =>
    obtain ⟨x, hx, hid⟩ := place_at hp
    rw [updF_some hp hx]
    have hi := lt_of_get? hx
    have hrf := g.ref x (List.mem_of_getElem? hx)
    obtain ⟨b, o, c, rfl, hb1, hb2, hb3, hb4, r0, r3, r4, r5⟩ := h.file hx
    refine walk (both ht (both hb2 r5)) ?_
    obtain ⟨q1, q2⟩ := h.put (k := 5) (v := .int .i64 (x.refs + 1)) (y := { x with refs := x.refs + 1 }) hb2 hx (by decide) rfl
    rw [List.length_set] at q1
    exact ⟨rfl, q2, q1⟩
theorem refSeek_ok {H : Heap} {p : Nat} {slv : AV} {l : List FileT} {next most : Int} (h : TabR H 46 p slv l next most) (g : GoodF l next most) (id off : Int) :
    Cl Try.prog pr12 28 [.ptr (some (p, 0)), .int .i64 id, .int .i64 off] H fun w H' => w = .int .i64 (if off < 0 ∧ placeF l id ≠ none then 22 else (updF l id fun x => { x with off := off }).2) ∧ Upd (fun z => slBlock slv = some z) H H' ∧ TabR H' 46 p slv (if off < 0 then l else (updF l id fun x => { x with off := off }).1) next most := by
  have ht := h.t
  have hf := g.fit
  refine Cl.enter Try.func28 rfl rfl Try.ntmps28 (by simp) ?_
  refine walk none0 ?_
  refine (refAt_ok h (by omega) id).mono fun w H1 _ ⟨e1, e2⟩ => ?_
  subst e1; subst e2
  obtain ⟨a, cap, ex, rfl, hc, hex⟩ := h.own.form
  cases hp : placeF l id with
  | none =>
    rw [updF_none hp]
    refine walk none0 ?_
    exact ⟨by simp, Upd.rfl, by simpa using h⟩
  | some i =>
    obtain ⟨x, hx, hid⟩ := place_at hp
    rw [updF_some hp hx]
    have hi := lt_of_get? hx
    by_cases ho : off < 0
    · refine walk ho ?_
      exact ⟨by simp [ho], Upd.rfl, by simpa [ho] using h⟩
    · obtain ⟨b, o, c, rfl, hb1, hb2, hb3, hb4, r0, r3, r4, r5⟩ := h.file hx
      refine walk (both ho (both ht (both hb2 r3))) ?_
      obtain ⟨q1, q2⟩ := h.put (k := 3) (v := .int .i64 off) (y := { x with off := off }) hb2 hx (by decide) rfl
      rw [List.length_set] at q1
      exact ⟨by simp [ho], q2, by simpa [ho] using q1⟩
theorem bit_ok (n : Int) (k : Nat) (hk : k ≤ 3) (H : Heap) (hn : In64 n) : Cl Try.prog pr12 34 [.int .i64 n, .int .i64 k] H fun w H' => w = .bool (decide (n / 2 ^ k % 2 = 1)) ∧ H' = H := by
  have e1 : IntKind.u64.wrap (k : Int) = k := by simp [IntKind.wrap, IntKind.signed, IntKind.bits]; omega
  have e2 : min k IntKind.i64.bits = k := Nat.min_eq_left (by rw [bits64]; omega)
  have e3 : n.fdiv (2 ^ k) = n / 2 ^ k := Int.fdiv_eq_ediv_of_nonneg _ (by have : (0 : Int) < 2 ^ k := Int.pow_pos (by decide); omega)
  have e4 := bitv hn k hk
  have e5 : (1 : Nat) % 2 ^ 64 = 1 := by decide
  refine Cl.enter Try.func34 rfl rfl Try.ntmps34 (by simp) ?_
  refine walk e1 ?_
  rw [e3, bits64, e5, e4]
  exact ⟨rfl, rfl⟩
theorem refSetFlags_ok {H : Heap} {p : Nat} {slv : AV} {l : List FileT} {next most : Int} (h : TabR H 46 p slv l next most) (g : GoodF l next most) (id fl : Int) (hfl : In64 fl) :
    Cl Try.prog pr12 29 [.ptr (some (p, 0)), .int .i64 id, .int .i64 fl] H fun w H' => w = .int .i64 (updF l id fun x => { x with flags := newFl x.flags fl }).2 ∧ Upd (fun z => slBlock slv = some z) H H' ∧ TabR H' 46 p slv (updF l id fun x => { x with flags := newFl x.flags fl }).1 next most := by
  have ht := h.t
  have hf := g.fit
  refine Cl.enter Try.func29 rfl rfl Try.ntmps29 (by simp) ?_
  refine walk none0 ?_
  refine (refAt_ok h (by omega) id).mono fun w H1 _ ⟨e1, e2⟩ => ?_
  subst e1; subst e2
  obtain ⟨a, cap, ex, rfl, hc, hex⟩ := h.own.form
  cases hp : placeF l id with
  | none =>
    rw [updF_none hp]
    refine walk none0 ?_
    exact ⟨rfl, Upd.rfl, h⟩
  | some i =>
    obtain ⟨x, hx, hid⟩ := place_at hp
    rw [updF_some hp hx]
    have hi := lt_of_get? hx
    have hfx := g.flg x (List.mem_of_getElem? hx)
    obtain ⟨b, o, c, rfl, hb1, hb2, hb3, hb4, r0, r3, r4, r5⟩ := h.file hx
    have hm : x.flags.tmod 4 = x.flags % 4 := Int.tmod_eq_emod_of_nonneg hfx.1
    have hput := fun v => h.put (k := 4) (v := .int .i64 v) (y := { x with flags := v }) hb2 hx (by decide) rfl
    refine walk (both ht (both hb2 (both r4 hm))) ?_
    refine (bit_ok fl 2 (by decide) H1 hfl).mono fun w H2 _ ⟨e1, e2⟩ => ?_
    subst e1; subst e2
    by_cases h4 : fl / 2 ^ 2 % 2 = 1
    · have d4 : decide (fl / 2 ^ 2 % 2 = 1) = true := decide_eq_true h4
      refine walk d4 ?_
      refine (bit_ok fl 3 (by decide) H2 hfl).mono fun w H3 _ ⟨e1, e2⟩ => ?_
      subst e1; subst e2
      by_cases h8 : fl / 2 ^ 3 % 2 = 1
      · have d8 : decide (fl / 2 ^ 3 % 2 = 1) = true := decide_eq_true h8
        refine walk (both d8 (both ht (both hb2 r4))) ?_
        have e : newFl x.flags fl = x.flags % 4 + 4 + 8 := by unfold newFl; rw [if_pos (show fl / 4 % 2 = 1 from h4), if_pos (show fl / 8 % 2 = 1 from h8)]
        obtain ⟨q1, q2⟩ := hput (x.flags % 4 + 4 + 8)
        rw [List.length_set] at q1
        rw [e]
        exact ⟨rfl, q2, q1⟩
      · have d8 : decide (fl / 2 ^ 3 % 2 = 1) = false := decide_eq_false h8
        refine walk (both d8 (both ht (both hb2 r4))) ?_
        have e : newFl x.flags fl = x.flags % 4 + 4 := by unfold newFl; rw [if_pos (show fl / 4 % 2 = 1 from h4), if_neg (show ¬ fl / 8 % 2 = 1 from h8)]; omega
        obtain ⟨q1, q2⟩ := hput (x.flags % 4 + 4)
        rw [List.length_set] at q1
        rw [e]
        exact ⟨rfl, q2, q1⟩
    · have d4 : decide (fl / 2 ^ 2 % 2 = 1) = false := decide_eq_false h4
      refine walk d4 ?_
      refine (bit_ok fl 3 (by decide) H2 hfl).mono fun w H3 _ ⟨e1, e2⟩ => ?_
      subst e1; subst e2
      by_cases h8 : fl / 2 ^ 3 % 2 = 1
      · have d8 : decide (fl / 2 ^ 3 % 2 = 1) = true := decide_eq_true h8
        refine walk (both d8 (both ht (both hb2 r4))) ?_
        have e : newFl x.flags fl = x.flags % 4 + 8 := by unfold newFl; rw [if_neg (show ¬ fl / 4 % 2 = 1 from h4), if_pos (show fl / 8 % 2 = 1 from h8)]; omega
        obtain ⟨q1, q2⟩ := hput (x.flags % 4 + 8)
        rw [List.length_set] at q1
        rw [e]
        exact ⟨rfl, q2, q1⟩
      · have d8 : decide (fl / 2 ^ 3 % 2 = 1) = false := decide_eq_false h8
        refine walk (both d8 (both ht (both hb2 r4))) ?_
        have e : newFl x.flags fl = x.flags % 4 := by unfold newFl; rw [if_neg (show ¬ fl / 4 % 2 = 1 from h4), if_neg (show ¬ fl / 8 % 2 = 1 from h8)]; omega
        obtain ⟨q1, q2⟩ := hput (x.flags % 4)
        rw [List.length_set] at q1
        rw [e]
        exact ⟨rfl, q2, q1⟩
theorem refDrop_ok {H : Heap} {p : Nat} {slv : AV} {l : List FileT} {next most : Int} (h : TabR H 46 p slv l next most) (g : GoodF l next most) (hn : next ≤ 100000) (id : Int) :
    Cl Try.prog pr12 27 [.ptr (some (p, 0)), .int .i64 id] H fun w H' => w = .tuple [.bool (dropF l id).t, .int .i64 (dropF l id).e] ∧ ∃ slv', Fro H slv slv' ∧ Upd (fun z => z = p ∨ slBlock slv = some z) H H' ∧ TabR H' 46 p slv' (dropF l id).l next most := by
  have ht := h.t
  have hf := g.fit
  refine Cl.enter Try.func27 rfl rfl Try.ntmps27 (by simp) ?_
  refine walk none0 ?_
  refine (refAt_ok h (by omega) id).mono fun w H1 _ ⟨e1, e2⟩ => ?_
  subst e1; subst e2
  obtain ⟨a, cap, ex, rfl, hc, hex⟩ := h.own.form
  cases hp : placeF l id with
  | none =>
    rw [dropF_none hp]
    refine walk none0 ?_
    exact ⟨rfl, _, fun z hz => .inl hz, Upd.rfl, h⟩
  | some i =>
    obtain ⟨x, hx, hid⟩ := place_at hp
    have hi := lt_of_get? hx
    have hrf := g.ref x (List.mem_of_getElem? hx)
    obtain ⟨b, o, c, rfl, hb1, hb2, hb3, hb4, r0, r3, r4, r5⟩ := h.file hx
    refine walk (both ht (both hb2 r5)) ?_
    obtain ⟨q1, q2⟩ := h.put (k := 5) (v := .int .i64 (x.refs - 1)) (y := { x with refs := x.refs - 1 }) hb2 hx (by decide) rfl
    generalize hH2 : H1.set b (.cells (c.set (o + i * 6 + 5) (.int .i64 (x.refs - 1))) 39 true false) = H2 at *
    have hx2 : (l.set i { x with refs := x.refs - 1 })[i]? = some { x with refs := x.refs - 1 } := by rw [List.getElem?_set_self hi]
    have q1t := q1.t
    obtain ⟨b', o', c', e', hb1', hb2', hb3', hb4', r0', r3', r4', r5'⟩ := q1.file hx2
    simp only [Option.some.injEq, Prod.mk.injEq] at e'
    obtain ⟨rfl, rfl⟩ := e'
    rw [List.length_set] at q1 q1t
    by_cases h1r : 1 < x.refs
    · rw [dropF_more hp hx h1r]
      refine walk (both q1t (both hb2' (both r5' h1r))) ?_
      exact ⟨rfl, _, fun z hz => .inl hz, Upd.rfl.trans q2 fun z _ h => .inr h, q1⟩
    · rw [dropF_last hp hx h1r]
      refine walk (both q1t (both hb2' (both r5' h1r))) ?_
      refine Wq.regionM [(1, 0), (2, 0), (3, 0), (4, 0), (5, 0), (6, 0), (7, 0), (8, 0), (9, 0), (10, 0), (11, 0), (12, 2), (13, 0), (14, 0), (15, 0), (16, 0), (0, 0), (17, 0), (18, 0), (19, 0)] (by kernel_rfl) ?_
      have herase : (l.set i { x with refs := x.refs - 1 }).eraseIdx i = l.eraseIdx i := erase_set
      have hlen : (l.eraseIdx i).length = l.length - 1 := List.length_eraseIdx_of_lt hi
      have hl2 : (l.set i { x with refs := x.refs - 1 }).length = l.length := List.length_set
      generalize l.set i { x with refs := x.refs - 1 } = l2 at *
      have hk3 : Keep H2 (H2.push (.cells [] 39 true false)) := Upd.rfl.push _
      have q3 := q1.kept hk3
      have q3t := q3.t
      have ho3 := q3.own
      rw [hl2] at ho3
      have hs3 := (ho3.sl).sub (k := 0) (m := i) (cap' := cap) (ex' := ex) (by omega) (by omega) hex
      simp only [Nat.zero_mul, Nat.add_zero, List.drop_zero] at hs3
      refine mwalk q3t ?_
      refine Dq.appendL (own := (.empty _)) (new := ((flat encF l2).take (i * 6))) (q := i) rfl met_none (by simp (disch := omega) [q3t, -getElem?_pos, wrapI64, tdivN, tmodN, ipos, ineg, dpos, dneg, slc_l, slc_h, slc_lh, slc_hm, slc_lhm, slc_0, slcR_some, slcR_none, cutS_ok, cutA_ok, byteAt_ok]; first | done | (repeat' (first | rfl | apply And.intro))) ⟨_, rfl, by simp; first | done | (repeat' (first | rfl | apply And.intro))⟩ rfl (by kernel_rfl) (by kernel_rfl) (hs3.src') hs3.len (List.all_eq_true.2 fun x hx => List.all_eq_true.1 (flatF_one l2) x (List.mem_of_mem_take hx)) (by omega) (by omega) fun w1 H4 o4 b4 s4 z4 => ?_
      have k4 : Keep H2 H4 := hk3.butOne b4 fun z hz hlt => by simp [slBlock] at hz; omega
      have q4 := q1.kept k4
      have q4t := q4.t
      have ho4 := q4.own
      rw [hl2] at ho4
      refine mwalk (both q4t q1t) ?_
      generalize hM : ((l.length : Int) - ((i : Int) + 1)).toNat = M
      generalize hC : ((cap : Int) - ((i : Int) + 1)).toNat = C
      have hMl : M = l.length - (i + 1) := by omega
      have hs4 := ho4.sl.sub (k := i + 1) (m := M) (cap' := C) (ex' := ex) (by omega) (by omega) hex
      have hf2 := flatF_len l2
      have hsl : ((flat encF l2).drop ((i + 1) * 6)).take (M * 6) = (flat encF l2).drop ((i + 1) * 6) := List.take_of_length_le (by rw [List.length_drop]; omega)
      rw [hsl] at hs4
      have hw1 : ∀ z, slBlock w1 = some z → H2.next ≤ z := fun z hz => by
        rcases s4 with e | e
        · rw [e] at hz; simp [slBlock] at hz; omega
        · rw [e] at hz; simp at hz; omega
      have hn4 := k4.next
      refine Dq.appendL (own := o4) (new := ((flat encF l2).drop ((i + 1) * 6))) (q := M) rfl met_none (by simp (disch := omega) [q4t, -getElem?_pos, wrapI64, tdivN, tmodN, ipos, ineg, dpos, dneg, slc_l, slc_h, slc_lh, slc_hm, slc_lhm, slc_0, slcR_some, slcR_none, cutS_ok, cutA_ok, byteAt_ok]; first | done | (repeat' (first | rfl | apply And.intro))) ⟨_, rfl, by simp; first | done | (repeat' (first | rfl | apply And.intro))⟩ rfl (by kernel_rfl) (by kernel_rfl) (hs4.src') hs4.len (List.all_eq_true.2 fun x hx => List.all_eq_true.1 (flatF_one l2) x (List.mem_of_mem_drop hx)) (by omega) (by omega) fun w2 H5 o5 b5 s5 z5 => ?_
      have k5 : Keep H2 H5 := k4.butOne b5 fun z hz hlt => by have := hw1 z hz; omega
      have q5 := q1.kept k5
      have q5t := q5.t
      have hp5 := q5.plt
      have hn5 := k5.next
      have hp2 := q1.plt
      have hq2 := q2.next
      obtain ⟨wa, wc, wx, rfl, _⟩ := o5.form
      refine mwalk q5t ?_
      refine walk none0 ?_
      have hcs : [] ++ List.take (i * 6) (flat encF l2) ++ List.drop ((i + 1) * 6) (flat encF l2) = flat encF (l.eraseIdx i) := by
        rw [← herase, List.eraseIdx_eq_take_drop_succ, flat_app, flat_takeN encF_len, flat_dropN encF_len, List.nil_append]
      have hw2 : ∀ z, slBlock (.slice wa (0 + i + M) wc wx) = some z → H2.next ≤ z := fun z hz => by
        rcases s5 with e | e
        · rw [e] at hz; exact hw1 z hz
        · rw [e] at hz; injection hz with hz; omega
      rw [hcs] at o5
      have hcnt : 0 + i + M = (l.eraseIdx i).length := by omega
      rw [hcnt] at o5 hw2 z5
      have hcnt' : i + M = (l.eraseIdx i).length := by omega
      rw [hcnt']
      have u5 : Upd (fun z => z = p ∨ slBlock (.slice (some (b, o)) l.length cap ex) = some z) H1 H5 := (Upd.rfl.trans q2 fun z _ h => .inr h).trans k5 fun z _ h => h.elim
      have hpw : ∀ z, slBlock (.slice wa (l.eraseIdx i).length wc wx) = some z → z ≠ p := fun z hz e => by have := hw2 z hz; omega
      refine ⟨rfl, .slice wa (l.eraseIdx i).length wc wx, fun z hz => .inr (by have := hw2 z hz; omega), u5.set _ (by omega) fun _ => .inl rfl, ⟨Heap.get_set_same _ _ _, o5.keep (Nat.le_refl _) fun z hz _ => ?_, fun e => hpw _ e rfl, fun z hz => ?_, by simpa using hp5⟩⟩
      · rw [Heap.get_set, if_neg (fun e => hpw z hz e)]
      · rcases z5 z hz with h' | h'
        · rcases z4 z h' with h'' | h''
          · simp [slBlock] at h''
            have := b4.1
            have := b5.1
            simp at *; omega
          · have := b5.1
            simp; omega
        · simpa using h'
end Go.Abs

/- Chapter 12: the reference's Open, walked. -/
namespace Go.Abs
open Go.Proofs
set_option maxRecDepth 100000
set_option linter.unusedVariables false
set_option linter.unusedSimpArgs false

set_option maxHeartbeats 4000000 in
theorem refOpen_ok {H : Heap} {p : Nat} {slv : AV} {l : List FileT} {next most : Int} (h : TabR H 46 p slv l next most) (g : GoodF l next most) (hn : next ≤ 100000) (k o f : Int) (hf : In64 f) :
    Cl Try.prog pr12 30 [.ptr (some (p, 0)), .int .i64 k, .int .i64 o, .int .i64 f] H fun w H' => w = .tuple [.int .i64 (openF l next most k o f).n, .int .i64 (openF l next most k o f).e] ∧ ∃ slv', Upd (fun z => z = p ∨ slBlock slv = some z) H H' ∧ Fro H slv slv' ∧ TabR H' 46 p slv' (openF l next most k o f).l (openF l next most k o f).next most := by
  have ht := h.t
  have hg := g.fit
  have hnx := g.nxt
  obtain ⟨a, cap, ex, rfl, hc, hex⟩ := h.own.form
  refine Cl.enter Try.func30 rfl rfl Try.ntmps30 (by simp) ?_
  by_cases a1 : k < 1
  · have hno : ¬ FitsF k o f := by unfold FitsF; omega
    refine walk a1 ?_
    have e : openF l next most k o f = ⟨l, next, 0, 22⟩ := by simp only [openF]; rw [if_pos hno]
    rw [e]
    exact ⟨rfl, _, Upd.rfl, fun z hz => .inl hz, h⟩
  by_cases a2 : 7 < k
  · have hno : ¬ FitsF k o f := by unfold FitsF; omega
    refine walk (both a1 a2) ?_
    have e : openF l next most k o f = ⟨l, next, 0, 22⟩ := by simp only [openF]; rw [if_pos hno]
    rw [e]
    exact ⟨rfl, _, Upd.rfl, fun z hz => .inl hz, h⟩
  by_cases a3 : k = 3
  · have hno : ¬ FitsF k o f := by unfold FitsF; omega
    refine walk (both a1 (both a2 a3)) ?_
    have e : openF l next most k o f = ⟨l, next, 0, 22⟩ := by simp only [openF]; rw [if_pos hno]
    rw [e]
    exact ⟨rfl, _, Upd.rfl, fun z hz => .inl hz, h⟩
  by_cases a4 : k = 4
  · have hno : ¬ FitsF k o f := by unfold FitsF; omega
    refine walk (both a1 (both a2 (both a3 a4))) ?_
    have e : openF l next most k o f = ⟨l, next, 0, 22⟩ := by simp only [openF]; rw [if_pos hno]
    rw [e]
    exact ⟨rfl, _, Upd.rfl, fun z hz => .inl hz, h⟩
  by_cases a5 : o < 1
  · have hno : ¬ FitsF k o f := by unfold FitsF; omega
    refine walk (both a1 (both a2 (both a3 (both a4 a5)))) ?_
    have e : openF l next most k o f = ⟨l, next, 0, 22⟩ := by simp only [openF]; rw [if_pos hno]
    rw [e]
    exact ⟨rfl, _, Upd.rfl, fun z hz => .inl hz, h⟩
  by_cases a6 : f < 0
  · have hno : ¬ FitsF k o f := by unfold FitsF; omega
    refine walk (both a1 (both a2 (both a3 (both a4 (both a5 a6))))) ?_
    have e : openF l next most k o f = ⟨l, next, 0, 22⟩ := by simp only [openF]; rw [if_pos hno]
    rw [e]
    exact ⟨rfl, _, Upd.rfl, fun z hz => .inl hz, h⟩
  by_cases a7 : 15 < f
  · have hno : ¬ FitsF k o f := by unfold FitsF; omega
    refine walk (both a1 (both a2 (both a3 (both a4 (both a5 (both a6 a7)))))) ?_
    have e : openF l next most k o f = ⟨l, next, 0, 22⟩ := by simp only [openF]; rw [if_pos hno]
    rw [e]
    exact ⟨rfl, _, Upd.rfl, fun z hz => .inl hz, h⟩
  refine walk (both a1 (both a2 (both a3 (both a4 (both a5 (both a6 a7)))))) ?_
  refine (bit_ok f 0 (by decide) H hf).mono fun w H1 _ ⟨e1, e2⟩ => ?_
  subst e1; subst e2
  by_cases b0 : f / 2 ^ 0 % 2 = 1
  · have d0 : decide (f / 2 ^ 0 % 2 = 1) = true := decide_eq_true b0
    have b0' : f % 2 = 1 := by simpa using b0
    refine walk d0 ?_
    refine (bit_ok f 1 (by decide) H1 hf).mono fun w H2 _ ⟨e1, e2⟩ => ?_
    subst e1; subst e2
    by_cases b1 : f / 2 ^ 1 % 2 = 1
    · have d1 : decide (f / 2 ^ 1 % 2 = 1) = true := decide_eq_true b1
      have b1' : f / 2 % 2 = 1 := by simpa using b1
      have hno : ¬ FitsF k o f := by unfold FitsF; omega
      refine walk (both d0 d1) ?_
      have e : openF l next most k o f = ⟨l, next, 0, 22⟩ := by simp only [openF]; rw [if_pos hno]
      rw [e]
      exact ⟨rfl, _, Upd.rfl, fun z hz => .inl hz, h⟩
    · have d1 : decide (f / 2 ^ 1 % 2 = 1) = false := decide_eq_false b1
      have b1' : ¬ f / 2 % 2 = 1 := by simpa using b1
      have hfit : FitsF k o f := by unfold FitsF; omega
      generalize hH : H2 = H1 at *
      refine walk (both d0 d1) ?_
      refine Wq.regionD [0, 1, 2, 3, 4, 5, 6, 7, 8, 9] (by kernel_rfl) ?_
      by_cases hfull : most ≤ (l.length : Int)
      · refine walk (both d0 (both d1 (both ht hfull))) ?_
        have e : openF l next most k o f = ⟨l, next, 0, 23⟩ := by simp only [openF]; rw [if_neg (fun h => h hfit), if_pos hfull]
        rw [e]
        exact ⟨rfl, _, Upd.rfl, fun z hz => .inl hz, h⟩
      · refine walk (both d0 (both d1 (both ht hfull))) ?_
        refine Wq.regionD [1, 2, 3, 4, 5, 6, 7, 8, 9, 10, 11, 12, 13, 14, 0, 15, 16, 17] (by kernel_rfl) ?_
        refine walk ht ?_
        have kk : Keep H1 (H1.push (.cells (encF ⟨next, k, o, 0, f, 1⟩) 39 true false)) := Upd.rfl.push _
        refine Oq.appendG (own := (h.own.kept kk)) (new := (encF ⟨next, k, o, 0, f, 1⟩)) (m := 1) (by simp (disch := omega) [encF, -getElem?_pos, wrapI64, tdivN, tmodN, ipos, ineg, dpos, dneg, slc_l, slc_h, slc_lh, slc_hm, slc_lhm, slc_0, slcR_some, slcR_none, cutS_ok, cutA_ok, byteAt_ok]; first | done | (repeat' (first | rfl | apply And.intro))) ⟨_, rfl, by simp; first | done | (repeat' (first | rfl | apply And.intro))⟩ rfl (by kernel_rfl) (by kernel_rfl) (by refine ⟨by simp, ?_⟩; simp (disch := omega) [srcCells, cellsAt, encF, -getElem?_pos, wrapI64, tdivN, tmodN, ipos, ineg, dpos, dneg, slc_l, slc_h, slc_lh, slc_hm, slc_lhm, slc_0, slcR_some, slcR_none, cutS_ok, cutA_ok, byteAt_ok]; first | done | rfl) rfl rfl (by omega) (by omega) fun w1 H2 o1 b1 s1 => ?_
        obtain ⟨q1, q2, q3, q4⟩ := h.grow kk o1 b1 s1 (next + 1)
        obtain ⟨wa, wc, wx, rfl, _⟩ := o1.form
        refine walk q1 ?_
        have e : openF l next most k o f = ⟨l ++ [⟨next, k, o, 0, f, 1⟩], next + 1, next, 0⟩ := by simp only [openF]; rw [if_neg (fun h => h hfit), if_neg hfull]
        rw [e]
        obtain ⟨r1, r2⟩ := q4 _ (Heap.get_set_same _ _ _) (((Upd.rfl (fp := fun z => z = p)).set _ q2 fun _ => rfl).set _ (by simpa using q2) fun _ => rfl)
        exact ⟨rfl, _, r2, q3, r1⟩
  · have d0 : decide (f / 2 ^ 0 % 2 = 1) = false := decide_eq_false b0
    have b0' : ¬ f % 2 = 1 := by simpa using b0
    have hfit : FitsF k o f := by unfold FitsF; omega
    refine walk d0 ?_
    refine Wq.regionD [0, 1, 2, 3, 4, 5, 6, 7, 8, 9] (by kernel_rfl) ?_
    by_cases hfull : most ≤ (l.length : Int)
    · refine walk (both d0 (both ht hfull)) ?_
      have e : openF l next most k o f = ⟨l, next, 0, 23⟩ := by simp only [openF]; rw [if_neg (fun h => h hfit), if_pos hfull]
      rw [e]
      exact ⟨rfl, _, Upd.rfl, fun z hz => .inl hz, h⟩
    · refine walk (both d0 (both ht hfull)) ?_
      refine Wq.regionD [1, 2, 3, 4, 5, 6, 7, 8, 9, 10, 11, 12, 13, 14, 0, 15, 16, 17] (by kernel_rfl) ?_
      refine walk ht ?_
      have kk : Keep H1 (H1.push (.cells (encF ⟨next, k, o, 0, f, 1⟩) 39 true false)) := Upd.rfl.push _
      refine Oq.appendG (own := (h.own.kept kk)) (new := (encF ⟨next, k, o, 0, f, 1⟩)) (m := 1) (by simp (disch := omega) [encF, -getElem?_pos, wrapI64, tdivN, tmodN, ipos, ineg, dpos, dneg, slc_l, slc_h, slc_lh, slc_hm, slc_lhm, slc_0, slcR_some, slcR_none, cutS_ok, cutA_ok, byteAt_ok]; first | done | (repeat' (first | rfl | apply And.intro))) ⟨_, rfl, by simp; first | done | (repeat' (first | rfl | apply And.intro))⟩ rfl (by kernel_rfl) (by kernel_rfl) (by refine ⟨by simp, ?_⟩; simp (disch := omega) [srcCells, cellsAt, encF, -getElem?_pos, wrapI64, tdivN, tmodN, ipos, ineg, dpos, dneg, slc_l, slc_h, slc_lh, slc_hm, slc_lhm, slc_0, slcR_some, slcR_none, cutS_ok, cutA_ok, byteAt_ok]; first | done | rfl) rfl rfl (by omega) (by omega) fun w1 H2 o1 b1 s1 => ?_
      obtain ⟨q1, q2, q3, q4⟩ := h.grow kk o1 b1 s1 (next + 1)
      obtain ⟨wa, wc, wx, rfl, _⟩ := o1.form
      refine walk q1 ?_
      have e : openF l next most k o f = ⟨l ++ [⟨next, k, o, 0, f, 1⟩], next + 1, next, 0⟩ := by simp only [openF]; rw [if_neg (fun h => h hfit), if_neg hfull]
      rw [e]
      obtain ⟨r1, r2⟩ := q4 _ (Heap.get_set_same _ _ _) (((Upd.rfl (fp := fun z => z = p)).set _ q2 fun _ => rfl).set _ (by simpa using q2) fun _ => rfl)
      exact ⟨rfl, _, r2, q3, r1⟩
end Go.Abs

/- Chapter 12: the comparison of files. -/
namespace Go.Abs
open Go.Proofs
set_option maxRecDepth 100000
set_option linter.unusedVariables false
set_option linter.unusedSimpArgs false

instance : DecidableEq FileT := fun x y => by
  cases x; cases y
  simp only [FileT.mk.injEq]
  infer_instance
def eqI : List (Int × Int) → Option Bool
  | [] => some true
  | (a, b) :: r => match some (a == b) with
    | some true => eqI r
    | some false => some false
    | none => none
theorem eqI_all : ∀ l : List (Int × Int), eqI l = some (l.all fun p => p.1 == p.2)
  | [] => rfl
  | (a, b) :: r => by
    have h : eqI ((a, b) :: r) = if a = b then eqI r else some false := by
      by_cases h : a = b
      · subst h; simp [eqI]
      · have : (a == b) = false := by simpa using h
        simp only [eqI, this, if_neg h]
    rw [h, eqI_all r]
    by_cases h : a = b <;> simp [h]
def eqSemF (P : Program) (t : TypeId) (xs ys : List AV) : Option Bool :=
  match P.underlying t with
  | some (.struct _) => if P.eqGuardType P.depth t then none else eqA P 8 t (.agg xs) (.agg ys)
  | _ => none
theorem eqSemF_eq {P : Program} {t : TypeId} {xs ys : List AV} {neg r : Bool} (h : eqSemF P t xs ys = some r) : eqSem P t (.agg xs) (.agg ys) neg = some (.pure (.bool (r != neg))) := by
  unfold eqSemF at h
  unfold eqSem
  split at h
  · rename_i hu
    rw [hu]
    split at h
    · cases h
    · rename_i hg
      simp only [hg, h, Bool.false_eq_true, if_false]
  · cases h
theorem eqF_chain (a b c d e f a' b' c' d' e' f' : Int) : eqSemF Try.prog 39 [.int .i64 a, .int .i64 b, .int .i64 c, .int .i64 d, .int .i64 e, .int .i64 f] [.int .i64 a', .int .i64 b', .int .i64 c', .int .i64 d', .int .i64 e', .int .i64 f'] = eqI [(a, a'), (b, b'), (c, c'), (d, d'), (e, e'), (f, f')] := by kernel_rfl
theorem eqF (x y : FileT) (neg : Bool) : eqSem Try.prog 39 (.agg [.int .i64 x.id, .int .i64 x.kind, .int .i64 x.obj, .int .i64 x.off, .int .i64 x.flags, .int .i64 x.refs]) (.agg [.int .i64 y.id, .int .i64 y.kind, .int .i64 y.obj, .int .i64 y.off, .int .i64 y.flags, .int .i64 y.refs]) neg = some (.pure (.bool ((decide (x = y)) != neg))) := by
  have h := eqF_chain x.id x.kind x.obj x.off x.flags x.refs y.id y.kind y.obj y.off y.flags y.refs
  rw [eqI_all] at h
  rw [eqSemF_eq h]
  congr 4
  cases x; cases y
  simp [FileT.mk.injEq]
  rfl
theorem eqF_eq (x y : FileT) (H : Heap) : binR Try.prog .eql 39 (some (.agg [.int .i64 x.id, .int .i64 x.kind, .int .i64 x.obj, .int .i64 x.off, .int .i64 x.flags, .int .i64 x.refs])) (some (.agg [.int .i64 y.id, .int .i64 y.kind, .int .i64 y.obj, .int .i64 y.off, .int .i64 y.flags, .int .i64 y.refs])) H = some (.bool (decide (x = y)), H) := by
  rw [binR_agg, eqF x y false]
  simp [Sm.run]
theorem eqF_ne (x y : FileT) (H : Heap) : binR Try.prog .neq 39 (some (.agg [.int .i64 x.id, .int .i64 x.kind, .int .i64 x.obj, .int .i64 x.off, .int .i64 x.flags, .int .i64 x.refs])) (some (.agg [.int .i64 y.id, .int .i64 y.kind, .int .i64 y.obj, .int .i64 y.off, .int .i64 y.flags, .int .i64 y.refs])) H = some (.bool !(decide (x = y)), H) := by
  rw [binR_aggn, eqF x y true]
  simp [Sm.run]
theorem same_ok {H : Heap} {v w : AV} {l : List FileT} (h : Sl H 6 v l.length (flat encF l)) (h' : Sl H 6 w l.length (flat encF l)) (hn : l.length ≤ 1000) :
    Cl Try.prog pr12 15 [v, w] H fun r H' => r = .bool true ∧ H' = H := by
  obtain ⟨a, cap, ex, rfl, hc, hex⟩ := h.form
  obtain ⟨a', cap', ex', rfl, hc', hex'⟩ := h'.form
  refine Cl.enter Try.func15 rfl rfl Try.ntmps15 (by simp) ?_
  refine walk none0 ?_
  refine Wq.loop (fun m e H' => ∃ i : Nat, i ≤ l.length ∧ m = l.length - i ∧ H' = H ∧ e 0 = .slice a l.length cap ex ∧ e 1 = .slice a' l.length cap' ex' ∧ e 5 = .int .i64 i) l.length ?_ ?_
  · exact ⟨0, by omega, by omega, rfl, by simp, by simp, by simp⟩
  · rintro m e H' ⟨i, hi, rfl, rfl, g0, g1, g5⟩
    by_cases hlt : i < l.length
    · obtain ⟨x, hx⟩ := get_lt hlt
      obtain ⟨b, o, c, t, w, mk, rfl, hb1, hb2, hb3, hb4⟩ := file_at h hx
      obtain ⟨b', o', c', t', w', mk', rfl, hb1', hb2', hb3', hb4'⟩ := file_at h' hx
      unfold encF at hb4 hb4'
      have he := fun H => eqF_ne x x H
      simp only [decide_true, Bool.not_true] at he
      refine walk (both g0 (both g1 (both g5 hlt))) ?_
      refine Wq.regionD [0, 1, 2, 3, 4, 5, 6, 7, 8] (by kernel_rfl) ?_
      refine walk (both g0 (both g1 (both g5 (both hlt (both hb2 (both hb4 (both hb2' (both hb4' he)))))))) ?_
      exact Roundq.normal (l.length - (i + 1)) (by omega) ⟨i + 1, by omega, rfl, rfl, by simp [g0], by simp [g1], by simp⟩
    · refine walk (both g0 (both g1 (both g5 hlt))) ?_
      exact ⟨rfl, rfl⟩

theorem new_ok (most : Int) (h1 : 1 ≤ most) (h2 : most ≤ 256) (H : Heap) : Cl Try.prog pr12 7 [.int .i64 most] H fun w H' => ∃ p, w = .ptr (some (p, 0)) ∧ H.next ≤ p ∧ TabR H' 55 p (.slice none 0 0 none) [] 1 most ∧ Keep H H' := by
  refine Cl.enter Try.func7 rfl rfl Try.ntmps7 (by simp) ?_
  refine walk none0 ?_
  refine ⟨H.next, rfl, Nat.le_refl _, ⟨by rw [Heap.get_push, if_pos rfl], OwnG.empty _, by simp [slBlock], fun z hz => by simp [slBlock] at hz, by simp⟩, Upd.rfl.push _⟩
theorem new_nil (most : Int) (h : most < 1 ∨ 256 < most) (H : Heap) : Cl Try.prog pr12 7 [.int .i64 most] H fun w H' => w = .ptr none ∧ H' = H := by
  refine Cl.enter Try.func7 rfl rfl Try.ntmps7 (by simp) ?_
  by_cases h1 : most < 1
  · refine walk h1 ?_
    exact ⟨rfl, rfl⟩
  · have h2 : 256 < most := by omega
    refine walk (both h1 h2) ?_
    exact ⟨rfl, rfl⟩
theorem refNew_ok (most : Int) (H : Heap) : Cl Try.prog pr12 13 [.int .i64 most] H fun w H' => ∃ p, w = .ptr (some (p, 0)) ∧ H.next ≤ p ∧ TabR H' 46 p (.slice none 0 0 none) [] 1 most ∧ Keep H H' := by
  refine Cl.enter Try.func13 rfl rfl Try.ntmps13 (by simp) ?_
  refine walk none0 ?_
  refine ⟨H.next, rfl, Nat.le_refl _, ⟨by rw [Heap.get_push, if_pos rfl], OwnG.empty _, by simp [slBlock], fun z hz => by simp [slBlock] at hz, by simp⟩, Upd.rfl.push _⟩
theorem hold_nil (id : Int) (H : Heap) : Cl Try.prog pr12 10 [.ptr none, .int .i64 id] H fun w H' => w = .int .i64 22 ∧ H' = H := by
  refine Cl.enter Try.func10 rfl rfl Try.ntmps10 (by simp) ?_
  refine walk none0 ?_
  refine (at_nil id H).mono fun w H1 _ ⟨e1, e2⟩ => ?_
  subst e1; subst e2
  refine walk none0 ?_
  exact ⟨rfl, rfl⟩
theorem seek_nil (id off : Int) (H : Heap) : Cl Try.prog pr12 20 [.ptr none, .int .i64 id, .int .i64 off] H fun w H' => w = .int .i64 22 ∧ H' = H := by
  refine Cl.enter Try.func20 rfl rfl Try.ntmps20 (by simp) ?_
  refine walk none0 ?_
  refine (at_nil id H).mono fun w H1 _ ⟨e1, e2⟩ => ?_
  subst e1; subst e2
  refine walk none0 ?_
  exact ⟨rfl, rfl⟩
theorem setFlags_nil (id fl : Int) (H : Heap) : Cl Try.prog pr12 21 [.ptr none, .int .i64 id, .int .i64 fl] H fun w H' => w = .int .i64 22 ∧ H' = H := by
  refine Cl.enter Try.func21 rfl rfl Try.ntmps21 (by simp) ?_
  refine walk none0 ?_
  refine (at_nil id H).mono fun w H1 _ ⟨e1, e2⟩ => ?_
  subst e1; subst e2
  refine walk none0 ?_
  exact ⟨rfl, rfl⟩
theorem drop_nil (id : Int) (H : Heap) : Cl Try.prog pr12 11 [.ptr none, .int .i64 id] H fun w H' => w = .tuple [.bool false, .int .i64 22] ∧ H' = H := by
  refine Cl.enter Try.func11 rfl rfl Try.ntmps11 (by simp) ?_
  refine walk none0 ?_
  refine (at_nil id H).mono fun w H1 _ ⟨e1, e2⟩ => ?_
  subst e1; subst e2
  refine walk none0 ?_
  exact ⟨rfl, rfl⟩
theorem get_nil (id : Int) (H : Heap) : Cl Try.prog pr12 18 [.ptr none, .int .i64 id] H fun w H' => (∃ x, w = .tuple [.agg (encF x), .bool false]) ∧ Keep H H' := by
  refine Cl.enter Try.func18 rfl rfl Try.ntmps18 (by simp) ?_
  refine walk none0 ?_
  refine (at_nil id _).mono fun w H1 _ ⟨e1, e2⟩ => ?_
  subst e1; subst e2
  refine walk none0 ?_
  exact ⟨⟨⟨0, 0, 0, 0, 0, 0⟩, rfl⟩, (Upd.rfl.push _).set _ (by simp) (by simp)⟩
theorem room_nil (H : Heap) : Cl Try.prog pr12 16 [.ptr none] H fun w H' => w = .int .i64 0 ∧ H' = H := by
  refine Cl.enter Try.func16 rfl rfl Try.ntmps16 (by simp) ?_
  refine walk none0 ?_
  exact ⟨rfl, rfl⟩
theorem numbers_nil (H : Heap) : Cl Try.prog pr12 17 [.ptr none] H fun w H' => w = .int .i64 0 ∧ H' = H := by
  refine Cl.enter Try.func17 rfl rfl Try.ntmps17 (by simp) ?_
  refine walk none0 ?_
  exact ⟨rfl, rfl⟩
theorem dump_nil (H : Heap) : Cl Try.prog pr12 12 [.ptr none] H fun w H' => (∃ a c ex, w = .slice a 0 c ex) ∧ H' = H := by
  refine Cl.enter Try.func12 rfl rfl Try.ntmps12 (by simp) ?_
  refine walk none0 ?_
  exact ⟨⟨_, _, _, rfl⟩, rfl⟩
theorem open_nil (k o f : Int) (H : Heap) : Cl Try.prog pr12 8 [.ptr none, .int .i64 k, .int .i64 o, .int .i64 f] H fun w H' => w = .tuple [.int .i64 0, .int .i64 22] ∧ H' = H := by
  refine Cl.enter Try.func8 rfl rfl Try.ntmps8 (by simp) ?_
  refine walk none0 ?_
  exact ⟨rfl, rfl⟩
end Go.Abs

/- Chapter 12: one act, on both tables. -/
namespace Go.Abs
open Go.Proofs
set_option maxRecDepth 100000
set_option linter.unusedVariables false
set_option linter.unusedSimpArgs false

structure Pair (H : Heap) (lo p q : Nat) (sv sw : AV) (l : List FileT) (next most : Int) : Prop where
  t : TabR H 55 p sv l next most
  r : TabR H 46 q sw l next most
  pq : p ≠ q
  ss : ∀ z, slBlock sv = some z → slBlock sw ≠ some z
  sq : slBlock sv ≠ some q
  wp : slBlock sw ≠ some p
  lp : lo ≤ p
  lq : lo ≤ q
  ls : ∀ z, slBlock sv = some z → lo ≤ z
  lw : ∀ z, slBlock sw = some z → lo ≤ z
theorem Pair.kept {H H' : Heap} {lo p q : Nat} {sv sw : AV} {l : List FileT} {next most : Int} (h : Pair H lo p q sv sw l next most) (k : Keep H H') : Pair H' lo p q sv sw l next most := { h with t := h.t.kept k, r := h.r.kept k }
theorem Pair.mid {H H1 : Heap} {lo p q : Nat} {sv sw : AV} {l : List FileT} {next most : Int} (h : Pair H lo p q sv sw l next most) (u : Upd (fun z => z = p ∨ slBlock sv = some z) H H1) : TabR H1 46 q sw l next most :=
  h.r.keep u (fun e => by rcases e with e | e; exact h.pq e.symm; exact h.sq e) fun z hz e => by rcases e with e | e; exact h.wp (e ▸ hz); exact h.ss z e hz
theorem Pair.step {H H1 H2 : Heap} {lo p q : Nat} {sv sw sv' sw' : AV} {l l' : List FileT} {next most next' : Int} (h : Pair H lo p q sv sw l next most) (hlo : lo ≤ H.next) (u1 : Upd (fun z => z = p ∨ slBlock sv = some z) H H1) (f1 : Fro H sv sv') (t1 : TabR H1 55 p sv' l' next' most)
    (u2 : Upd (fun z => z = q ∨ slBlock sw = some z) H1 H2) (f2 : Fro H1 sw sw') (r2 : TabR H2 46 q sw' l' next' most) : Pair H2 lo p q sv' sw' l' next' most ∧ Upd (fun z => lo ≤ z) H H2 := by
  have hn := u1.next
  have hq := h.r.plt
  have hp := h.t.plt
  have e1 : slBlock sv' ≠ some q := fun e => by rcases f1 q e with h' | h'; exact h.sq h'; omega
  have e2 : ∀ z, slBlock sv' = some z → slBlock sw ≠ some z := fun z hz hw => by
    rcases f1 z hz with h' | h'
    · exact h.ss z h' hw
    · have := h.r.lt z hw; omega
  refine ⟨⟨t1.keep u2 (fun e => ?_) (fun z hz e => ?_), r2, h.pq, fun z hz hw => ?_, e1, fun e => ?_, h.lp, h.lq, fun z hz => ?_, fun z hz => ?_⟩, ?_⟩
  · rcases e with e | e
    · exact h.pq e
    · exact h.wp e
  · rcases e with e | e
    · exact e1 (e ▸ hz)
    · exact e2 z hz e
  · rcases f2 z hw with h' | h'
    · exact e2 z hz h'
    · have := t1.lt z hz; omega
  · rcases f2 p e with h' | h'
    · exact h.wp h'
    · omega
  · rcases f1 z hz with h' | h'
    · exact h.ls z h'
    · omega
  · rcases f2 z hz with h' | h'
    · exact h.lw z h'
    · omega
  · refine Upd.trans (Upd.rfl.trans u1 fun z _ e => ?_) u2 fun z _ e => ?_
    · rcases e with e | e
      · exact e ▸ h.lp
      · exact h.ls z e
    · rcases e with e | e
      · exact e ▸ h.lq
      · exact h.lw z e
def actF (l : List FileT) (next most k id a b : Int) : List FileT × Int :=
  if k = 1 then ((updF l id fun x => { x with refs := x.refs + 1 }).1, next)
  else if k = 2 then ((dropF l id).l, next)
  else if k = 3 then (if a < 0 then l else (updF l id fun x => { x with off := a }).1, next)
  else if k = 4 then ((updF l id fun x => { x with flags := newFl x.flags a }).1, next)
  else ((openF l next most id a b).l, (openF l next most id a b).next)
set_option maxHeartbeats 4000000 in
theorem does_ok {H : Heap} {lo p q : Nat} {sv sw : AV} {l : List FileT} {next most : Int} (h : Pair H lo p q sv sw l next most) (hlo : lo ≤ H.next) (g : GoodF l next most) (hn : next ≤ 100000) (k id a b : Int) (ha : In64 a) (hb : In64 b) :
    Cl Try.prog pr12 14 [.ptr (some (p, 0)), .ptr (some (q, 0)), .agg [.int .i64 k, .int .i64 id, .int .i64 a, .int .i64 b]] H fun w H' => w = .bool true ∧ ∃ sv' sw', Pair H' lo p q sv' sw' (actF l next most k id a b).1 (actF l next most k id a b).2 most ∧ Upd (fun z => lo ≤ z) H H' := by
  refine Cl.enter Try.func14 rfl rfl Try.ntmps14 (by simp) ?_
  have k0 : Keep H (H.push (.cells [.int .i64 k, .int .i64 id, .int .i64 a, .int .i64 b] 32 true false)) := Upd.rfl.push _
  have hg0 : (H.push (.cells [.int .i64 k, .int .i64 id, .int .i64 a, .int .i64 b] 32 true false)).get H.next = some (.cells [.int .i64 k, .int .i64 id, .int .i64 a, .int .i64 b] 32 true false) := by rw [Heap.get_push, if_pos rfl]
  have h0 := h.kept k0
  have hgA : ∀ {H1 : Heap}, Upd (fun z => z = p ∨ slBlock sv = some z) (H.push (.cells [.int .i64 k, .int .i64 id, .int .i64 a, .int .i64 b] 32 true false)) H1 → H1.get H.next = some (.cells [.int .i64 k, .int .i64 id, .int .i64 a, .int .i64 b] 32 true false) := fun u => by
    refine (u.keep _ (by simp) fun e => ?_).trans hg0
    rcases e with e | e
    · have := h.t.plt; omega
    · have := h.t.lt _ e; omega
  have hlo0 : lo ≤ (H.push (.cells [.int .i64 k, .int .i64 id, .int .i64 a, .int .i64 b] 32 true false)).next := by simp; omega
  by_cases h1 : k = 1
  · subst h1
    have ea : actF l next most 1 id a b = ((updF l id fun x => { x with refs := x.refs + 1 }).1, next) := by simp [actF]
    rw [ea]
    refine walk none0 ?_
    refine Wq.regionM [(0, 0), (1, 0), (2, 0), (3, 0), (4, 0), (5, 0), (6, 2), (7, 0), (8, 0), (9, 0)] (by kernel_rfl) ?_
    refine mwalk hg0 ?_
    refine (hold_ok h0.t g hn id).mono fun w H1 _ ⟨e1, u1', t1⟩ => ?_
    subst e1
    have u1 : Upd (fun z => z = p ∨ slBlock sv = some z) _ H1 := Upd.rfl.trans u1' fun z _ e => .inr e
    have hg1 := hgA u1
    refine mwalk (both hg0 hg1) ?_
    refine (refHold_ok (h0.mid u1) g hn id).mono fun w H2 _ ⟨e1, u2', t2⟩ => ?_
    subst e1
    have u2 : Upd (fun z => z = q ∨ slBlock sw = some z) H1 H2 := Upd.rfl.trans u2' fun z _ e => .inr e
    obtain ⟨P2, U2⟩ := h0.step hlo0 u1 (fun z hz => .inl hz) t1 u2 (fun z hz => .inl hz) t2
    refine mwalk hg0 ?_
    refine walk none0 ?_
    exact ⟨rfl, _, _, P2, (Upd.of k0).trans U2 fun z _ e => e⟩
  · by_cases h2 : k = 2
    · subst h2
      have ea : actF l next most 2 id a b = ((dropF l id).l, next) := by simp [actF]
      rw [ea]
      refine walk hg0 ?_
      refine (drop_ok h0.t g hn id).mono fun w H1 _ ⟨e1, sv', f1, u1, t1⟩ => ?_
      subst e1
      have hg1 := hgA u1
      refine walk hg1 ?_
      refine (refDrop_ok (h0.mid u1) g hn id).mono fun w H2 _ ⟨e1, sw', f2, u2, t2⟩ => ?_
      subst e1
      obtain ⟨P2, U2⟩ := h0.step hlo0 u1 (fun z hz => .inl (f1 ▸ hz)) t1 u2 f2 t2
      refine walk none0 ?_
      exact ⟨rfl, _, _, P2, (Upd.of k0).trans U2 fun z _ e => e⟩
    · by_cases h3 : k = 3
      · subst h3
        have ea : actF l next most 3 id a b = (if a < 0 then l else (updF l id fun x => { x with off := a }).1, next) := by simp [actF]
        rw [ea]
        refine walk none0 ?_
        refine Wq.regionM [(0, 0), (1, 0), (2, 0), (3, 0), (4, 0), (5, 0), (6, 0), (7, 0), (8, 2), (9, 0), (10, 2), (11, 0), (12, 0), (13, 0)] (by kernel_rfl) ?_
        refine mwalk hg0 ?_
        refine (seek_ok h0.t g id a).mono fun w H1 _ ⟨e1, u1', t1⟩ => ?_
        subst e1
        have u1 : Upd (fun z => z = p ∨ slBlock sv = some z) _ H1 := Upd.rfl.trans u1' fun z _ e => .inr e
        have hg1 := hgA u1
        refine mwalk (both hg0 hg1) ?_
        refine (refSeek_ok (h0.mid u1) g id a).mono fun w H2 _ ⟨e1, u2', t2⟩ => ?_
        subst e1
        have u2 : Upd (fun z => z = q ∨ slBlock sw = some z) H1 H2 := Upd.rfl.trans u2' fun z _ e => .inr e
        obtain ⟨P2, U2⟩ := h0.step hlo0 u1 (fun z hz => .inl hz) t1 u2 (fun z hz => .inl hz) t2
        refine mwalk hg0 ?_
        refine walk none0 ?_
        exact ⟨rfl, _, _, P2, (Upd.of k0).trans U2 fun z _ e => e⟩
      · by_cases h4 : k = 4
        · subst h4
          have ea : actF l next most 4 id a b = ((updF l id fun x => { x with flags := newFl x.flags a }).1, next) := by simp [actF]
          rw [ea]
          refine walk none0 ?_
          refine Wq.regionM [(0, 0), (1, 0), (2, 0), (3, 0), (4, 0), (5, 0), (6, 0), (7, 0), (8, 2), (9, 0), (10, 2), (11, 0), (12, 0), (13, 0)] (by kernel_rfl) ?_
          refine mwalk hg0 ?_
          refine (setFlags_ok h0.t g id a ha).mono fun w H1 _ ⟨e1, u1', t1⟩ => ?_
          subst e1
          have u1 : Upd (fun z => z = p ∨ slBlock sv = some z) _ H1 := Upd.rfl.trans u1' fun z _ e => .inr e
          have hg1 := hgA u1
          refine mwalk (both hg0 hg1) ?_
          refine (refSetFlags_ok (h0.mid u1) g id a ha).mono fun w H2 _ ⟨e1, u2', t2⟩ => ?_
          subst e1
          have u2 : Upd (fun z => z = q ∨ slBlock sw = some z) H1 H2 := Upd.rfl.trans u2' fun z _ e => .inr e
          obtain ⟨P2, U2⟩ := h0.step hlo0 u1 (fun z hz => .inl hz) t1 u2 (fun z hz => .inl hz) t2
          refine mwalk hg0 ?_
          refine walk none0 ?_
          exact ⟨rfl, _, _, P2, (Upd.of k0).trans U2 fun z _ e => e⟩
        · have ea : actF l next most k id a b = ((openF l next most id a b).l, (openF l next most id a b).next) := by simp [actF, h1, h2, h3, h4]
          rw [ea]
          refine walk (both h1 (both h2 (both h3 (both h4 hg0)))) ?_
          refine (open_ok h0.t g hn id a b hb).mono fun w H1 _ ⟨e1, sv', u1, f1, t1⟩ => ?_
          subst e1
          have hg1 := hgA u1
          refine walk hg1 ?_
          refine (refOpen_ok (h0.mid u1) g hn id a b hb).mono fun w H2 _ ⟨e1, sw', u2, f2, t2⟩ => ?_
          subst e1
          obtain ⟨P2, U2⟩ := h0.step hlo0 u1 f1 t1 u2 f2 t2
          refine walk none0 ?_
          exact ⟨rfl, _, _, P2, (Upd.of k0).trans U2 fun z _ e => e⟩
end Go.Abs

/- Chapter 12: what stays true, act by act; acts that come in. -/
namespace Go.Abs
open Go.Proofs
set_option maxRecDepth 100000
set_option linter.unusedVariables false
set_option linter.unusedSimpArgs false

theorem set_at {l : List FileT} {i j : Nat} {x y z : FileT} (hx : l[i]? = some x) (hid : y.id = x.id) (h : (l.set i y)[j]? = some z) : ∃ z', l[j]? = some z' ∧ z'.id = z.id := by
  rw [List.getElem?_set] at h
  split at h
  · rename_i e
    subst e
    split at h
    · injection h with h; subst h; exact ⟨x, hx, hid.symm⟩
    · cases h
  · exact ⟨z, h, rfl⟩
theorem mem_set {l : List FileT} {i : Nat} {y z : FileT} (h : z ∈ l.set i y) : z = y ∨ z ∈ l := by
  rcases List.mem_or_eq_of_mem_set h with h | h
  · exact .inr h
  · exact .inl h
theorem GoodF.set {l : List FileT} {next most : Int} {i : Nat} {x y : FileT} (g : GoodF l next most) (hx : l[i]? = some x) (hid : y.id = x.id) (hf : 0 ≤ y.flags ∧ y.flags ≤ 15) (hr : 1 ≤ y.refs ∧ y.refs ≤ 1000000) : GoodF (l.set i y) next most := by
  refine ⟨fun j k u v hu hv hjk => ?_, fun z hz => ?_, fun z hz => ?_, fun z hz => ?_, g.nxt, by rw [List.length_set]; exact g.fit⟩
  · obtain ⟨u', hu', eu⟩ := set_at hx hid hu
    obtain ⟨v', hv', ev⟩ := set_at hx hid hv
    have := g.rise j k u' v' hu' hv' hjk
    omega
  · rcases mem_set hz with rfl | hz
    · have := g.ids x (List.mem_of_getElem? hx); omega
    · exact g.ids z hz
  · rcases mem_set hz with rfl | hz
    · exact hf
    · exact g.flg z hz
  · rcases mem_set hz with rfl | hz
    · exact hr
    · exact g.ref z hz
theorem GoodF.erase {l : List FileT} {next most : Int} {i : Nat} (g : GoodF l next most) : GoodF (l.eraseIdx i) next most := by
  have hm : ∀ z, z ∈ l.eraseIdx i → z ∈ l := fun z hz => List.mem_of_mem_eraseIdx hz
  have hl : (l.eraseIdx i).length ≤ l.length := List.length_eraseIdx_le l i
  have hf := g.fit
  refine ⟨fun j k u v hu hv hjk => ?_, fun z hz => g.ids z (hm z hz), fun z hz => g.flg z (hm z hz), fun z hz => g.ref z (hm z hz), g.nxt, by omega⟩
  rw [List.getElem?_eraseIdx] at hu hv
  split at hu <;> split at hv
  · exact g.rise _ _ _ _ hu hv hjk
  · exact g.rise _ _ _ _ hu hv (by omega)
  · exact g.rise _ _ _ _ hu hv (by omega)
  · exact g.rise _ _ _ _ hu hv (by omega)
theorem GoodF.snoc {l : List FileT} {next most k o f : Int} (g : GoodF l next most) (hm : ¬ most ≤ (l.length : Int)) (hf : 0 ≤ f ∧ f ≤ 15) : GoodF (l ++ [⟨next, k, o, 0, f, 1⟩]) (next + 1) most := by
  have hfit := g.fit
  have hn := g.nxt
  refine ⟨fun i j u v hu hv hij => ?_, fun z hz => ?_, fun z hz => ?_, fun z hz => ?_, by omega, ?_⟩
  · have hj := lt_of_get? hv
    rw [List.length_append] at hj
    simp at hj
    have hi : i < l.length := by omega
    rw [List.getElem?_append_left hi] at hu
    have hu1 := g.ids u (List.mem_of_getElem? hu)
    rcases Nat.lt_or_ge j l.length with h | h
    · rw [List.getElem?_append_left h] at hv
      exact g.rise _ _ _ _ hu hv hij
    · obtain rfl : j = l.length := by omega
      rw [List.getElem?_append_right (Nat.le_refl _), Nat.sub_self] at hv
      simp at hv; subst hv; exact hu1.2
  · rw [List.mem_append] at hz
    rcases hz with hz | hz
    · have := g.ids z hz; omega
    · simp at hz; subst hz; simp; omega
  · rw [List.mem_append] at hz
    rcases hz with hz | hz
    · exact g.flg z hz
    · simp at hz; subst hz; exact hf
  · rw [List.mem_append] at hz
    rcases hz with hz | hz
    · exact g.ref z hz
    · simp at hz; subst hz; simp
  · rw [List.length_append]; simp; omega
def RefB (l : List FileT) (r : Int) : Prop := ∀ x ∈ l, x.refs ≤ r
theorem newFl_15 {x f : Int} (h : 0 ≤ x ∧ x ≤ 15) : 0 ≤ newFl x f ∧ newFl x f ≤ 15 := by
  unfold newFl
  split <;> split <;> omega
theorem upd_good {l : List FileT} {next most r : Int} {id : Int} {f : FileT → FileT} (g : GoodF l next most) (hb : RefB l r) (hr : r ≤ 999999) (hid : ∀ x, (f x).id = x.id) (hfl : ∀ x, 0 ≤ x.flags ∧ x.flags ≤ 15 → 0 ≤ (f x).flags ∧ (f x).flags ≤ 15) (hrf : ∀ x, x.refs ≤ (f x).refs ∧ (f x).refs ≤ x.refs + 1) : GoodF (updF l id f).1 next most ∧ RefB (updF l id f).1 (r + 1) := by
  cases hp : placeF l id with
  | none =>
    rw [updF_none hp]
    exact ⟨g, fun x hx => by have := hb x hx; omega⟩
  | some i =>
    obtain ⟨x, hx, hid'⟩ := place_at hp
    rw [updF_some hp hx]
    have hm := List.mem_of_getElem? hx
    have h1 := hrf x
    have h2 := hb x hm
    have h3 := g.ref x hm
    refine ⟨g.set hx (hid x) (hfl x (g.flg x hm)) (by omega), fun z hz => ?_⟩
    rcases mem_set hz with rfl | hz
    · omega
    · have := hb z hz; omega
theorem drop_good {l : List FileT} {next most r : Int} {id : Int} (g : GoodF l next most) (hb : RefB l r) : GoodF (dropF l id).l next most ∧ RefB (dropF l id).l r := by
  cases hp : placeF l id with
  | none =>
    rw [dropF_none hp]
    exact ⟨g, hb⟩
  | some i =>
    obtain ⟨x, hx, hid'⟩ := place_at hp
    have hm := List.mem_of_getElem? hx
    have h3 := g.ref x hm
    have h2 := hb x hm
    by_cases h1 : 1 < x.refs
    · rw [dropF_more hp hx h1]
      refine ⟨g.set hx rfl (g.flg x hm) ⟨by simp; omega, by simp; omega⟩, fun z hz => ?_⟩
      rcases mem_set hz with rfl | hz
      · simp; omega
      · exact hb z hz
    · rw [dropF_last hp hx h1]
      exact ⟨g.erase, fun z hz => hb z (List.mem_of_mem_eraseIdx hz)⟩
theorem open_good {l : List FileT} {next most r k o f : Int} (g : GoodF l next most) (hb : RefB l r) (hr : 1 ≤ r) : GoodF (openF l next most k o f).l (openF l next most k o f).next most ∧ RefB (openF l next most k o f).l r ∧ next ≤ (openF l next most k o f).next ∧ (openF l next most k o f).next ≤ next + 1 := by
  unfold openF
  split
  · exact ⟨g, hb, Int.le_refl _, by simp; omega⟩
  · rename_i h
    split
    · exact ⟨g, hb, Int.le_refl _, by simp; omega⟩
    · rename_i hm
      have hf : FitsF k o f := by simpa using h
      refine ⟨g.snoc hm ⟨hf.2.2.1, hf.2.2.2.1⟩, fun z hz => ?_, by simp; omega, by simp⟩
      rw [List.mem_append] at hz
      rcases hz with hz | hz
      · exact hb z hz
      · simp at hz; subst hz; simpa using hr
theorem act_good {l : List FileT} {next most r k id a b : Int} (g : GoodF l next most) (hb : RefB l r) (hr : 1 ≤ r ∧ r ≤ 999999) : GoodF (actF l next most k id a b).1 (actF l next most k id a b).2 most ∧ RefB (actF l next most k id a b).1 (r + 1) ∧ next ≤ (actF l next most k id a b).2 ∧ (actF l next most k id a b).2 ≤ next + 1 := by
  have hup : ∀ {l'}, RefB l' r → RefB l' (r + 1) := fun h x hx => by have := h x hx; omega
  unfold actF
  split
  · have := upd_good (id := id) (f := fun x => { x with refs := x.refs + 1 }) g hb hr.2 (fun _ => rfl) (fun _ h => h) (fun x => ⟨by simp; omega, by simp⟩)
    exact ⟨this.1, this.2, by simp, by simp; omega⟩
  · split
    · have := drop_good (id := id) g hb
      exact ⟨this.1, hup this.2, by simp, by simp; omega⟩
    · split
      · split
        · exact ⟨g, hup hb, by simp, by simp; omega⟩
        · have := upd_good (id := id) (f := fun x => { x with off := a }) g hb hr.2 (fun _ => rfl) (fun _ h => h) (fun x => ⟨by simp, by simp; omega⟩)
          exact ⟨this.1, this.2, by simp, by simp; omega⟩
      · split
        · have := upd_good (id := id) (f := fun x => { x with flags := newFl x.flags a }) g hb hr.2 (fun _ => rfl) (fun _ h => newFl_15 h) (fun x => ⟨by simp, by simp; omega⟩)
          exact ⟨this.1, this.2, by simp, by simp; omega⟩
        · have := open_good (k := id) (o := a) (f := b) g hb hr.1
          exact ⟨this.1, hup this.2.1, this.2.2.1, this.2.2.2⟩
theorem good_new {most : Int} (h : 1 ≤ most ∧ most ≤ 256) : GoodF [] 1 most := ⟨fun i j x y hx => by simp at hx, by simp, by simp, by simp, by omega, by simp; omega⟩

structure ActI where
  k : Int
  id : Int
  a : Int
  b : Int
def encA (x : ActI) : List AV := [.int .i64 x.k, .int .i64 x.id, .int .i64 x.a, .int .i64 x.b]
def ActL (H : Heap) (v : AV) (l : List ActI) : Prop := ∃ c, Sl H 4 v l.length c ∧ (∀ z, slBlock v = some z → z < H.next) ∧ l.length ≤ maxLen ∧ ∀ i x, l[i]? = some x → (c.drop (i * 4)).take 4 = encA x ∧ In64 x.k ∧ In64 x.id ∧ In64 x.a ∧ In64 x.b
theorem ActL.upd {H H' : Heap} {v : AV} {l : List ActI} {fp : Nat → Prop} (h : ActL H v l) (u : Upd fp H H') (hd : ∀ z, z < H.next → ¬ fp z) : ActL H' v l := by
  obtain ⟨c, h1, h2, h3⟩ := h
  exact ⟨c, h1.upd u fun z hz _ => hd z (h2 z hz), fun z hz => by have := h2 z hz; have := u.next; omega, h3⟩
theorem ActL.form {H : Heap} {v : AV} {l : List ActI} (h : ActL H v l) : ∃ a cap ex, v = .slice a l.length cap ex ∧ l.length ≤ maxLen := by
  obtain ⟨c, h1, h2, h3, h4⟩ := h
  obtain ⟨a, cap, ex, rfl, _⟩ := h1.form
  exact ⟨a, cap, ex, rfl, h3⟩
theorem ActL.at {H : Heap} {a : Option (Nat × Nat)} {cap : Nat} {ex : Option Nat} {l : List ActI} {i : Nat} {x : ActI} (h : ActL H (.slice a l.length cap ex) l) (hx : l[i]? = some x) :
    ∃ b o c t w m, a = some (b, o) ∧ b < H.next ∧ H.get b = some (.cells c t w m) ∧ o + i * 4 + 4 ≤ c.length ∧ (c.drop (o + i * 4)).take 4 = [.int .i64 x.k, .int .i64 x.id, .int .i64 x.a, .int .i64 x.b] ∧ In64 x.a ∧ In64 x.b ∧ In64 x.id := by
  obtain ⟨c, h1, h2, h3, h4⟩ := h
  have hi := lt_of_get? hx
  obtain ⟨b, o, c', t, w, m, rfl, g1, g2, g3, g4⟩ := h1.at (by omega)
  obtain ⟨e, _, q2, q3, q4⟩ := h4 i x hx
  refine ⟨b, o, c', t, w, m, rfl, g1, g2, by omega, ?_, q3, q4, q2⟩
  rw [sub_take g4 (by omega)]
  exact e
theorem acti_of {H : Heap} {cs : List AV} (h : Pic Try.prog H 3 32 cs) : ∃ x : ActI, cs = encA x ∧ In64 x.k ∧ In64 x.id ∧ In64 x.a ∧ In64 x.b := by
  unfold Pic at h
  simp only [Try.underlying32] at h
  obtain ⟨hl, hf⟩ := h
  have c3 : Try.prog.cellsOf 3 = 1 := by kernel_rfl
  have c32 : Try.prog.cellsOf 32 = 4 := by kernel_rfl
  rw [c32] at hl
  match cs, hl with
  | [a, b, c, d], _ =>
    simp [c3] at hf
    obtain ⟨h0, h1, h2, h3⟩ := hf
    obtain ⟨k, e0, w0⟩ := pic_int (k := .i64) Try.underlying3 h0
    obtain ⟨p, e1, w1⟩ := pic_int (k := .i64) Try.underlying3 h1
    obtain ⟨q, e2, w2⟩ := pic_int (k := .i64) Try.underlying3 h2
    obtain ⟨r, e3, w3⟩ := pic_int (k := .i64) Try.underlying3 h3
    simp at e0 e1 e2 e3
    subst e0; subst e1; subst e2; subst e3
    exact ⟨⟨k, p, q, r⟩, rfl, i64_wf w0, i64_wf w1, i64_wf w2, i64_wf w3⟩
theorem actl_of {H : Heap} {v : AV} (h : Pic Try.prog H 4 29 [v]) : ∃ l, ActL H v l := by
  obtain ⟨len, c, h1, h2, h3, h4⟩ := pic_slice (s := 4) Try.underlying29 (by kernel_rfl) h
  obtain ⟨l, hl, hp⟩ := list_of fun i hi => acti_of (h4 i hi)
  exact ⟨l, c, by rw [hl]; exact h1, h3, by omega, hp⟩
end Go.Abs

/- Chapter 12: FilesActs, FilesNews, FilesFull, walked. -/
namespace Go.Abs
open Go.Proofs
set_option maxRecDepth 100000
set_option linter.unusedVariables false
set_option linter.unusedSimpArgs false

theorem lives_ok (H : Heap) : Cl Try.prog pr12 9 [] H fun v H' => v = .bool true ∧ H' = H := Cl.prim (v := .bool true) (H' := H) rfl rfl ⟨rfl, rfl⟩
set_option maxHeartbeats 4000000 in
theorem filesFull_main (z0 z1 : Int) (H : Heap) (h0 : 0 ≤ z0 ∧ z0 ≤ 255) (h1 : 0 ≤ z1 ∧ z1 ≤ 255) : Cl Try.prog pr12 3 [.int .u8 z0, .int .u8 z1] H fun v _ => v = .bool true := by
  have hn : 1 ≤ 1 + z0 ∧ 1 + z0 ≤ 256 := by omega
  refine Cl.enter Try.func3 rfl rfl Try.ntmps3 (by simp) ?_
  refine walk none0 ?_
  refine (new_ok (1 + z0) hn.1 hn.2 H).mono fun w H1 _ ⟨p, e, hp, hT, hk⟩ => ?_
  subst e
  generalize 1 + z0 = n at *
  refine walk none0 ?_
  refine Wq.loop (fun m e H' => ∃ (i : Nat) (sv : AV) (l : List FileT) (next : Int), (i : Int) ≤ z1 ∧ m = z1.toNat - i ∧ e 1 = .int .u8 z1 ∧ e 5 = .int .i64 n ∧ e 6 = .ptr (some (p, 0)) ∧ e 7 = .int .i64 i ∧ TabR H' 55 p sv l next n ∧ GoodF l next n ∧ next = 1 + l.length ∧ ((i : Int) < n → l.length = i) ∧ (n ≤ i → (l.length : Int) = n)) z1.toNat ?_ ?_
  · exact ⟨0, _, [], 1, by omega, by omega, by simp, by simp, by simp, by simp, hT, good_new hn, by simp, by simp, by omega⟩
  · rintro m e H' ⟨i, sv, l, next, hi, rfl, g1, g5, g6, g7, hT, hG, hnx, hlt, hge⟩
    by_cases hgo : (i : Int) < z1
    · have hfl : (0 : Int) ≤ (i : Int) % 2 ∧ (i : Int) % 2 ≤ 1 := by omega
      have hmod : (i : Int).tmod 2 = (i : Int) % 2 := Int.tmod_eq_emod_of_nonneg (by omega)
      have hfit : FitsF 5 ((i : Int) + 1) ((i : Int) % 2) := by unfold FitsF; omega
      have hGf := hG.fit
      refine walk (both g1 (both g5 (both g6 (both g7 (both hgo hmod))))) ?_
      refine (open_ok hT hG (by omega) 5 ((i : Int) + 1) ((i : Int) % 2) (by unfold In64; omega)).mono fun w H2 _ ⟨e1, sv', u, f, t⟩ => ?_
      subst e1
      by_cases hin : (i : Int) < n
      · have hl := hlt hin
        have e : openF l next n 5 ((i : Int) + 1) ((i : Int) % 2) = ⟨l ++ [⟨next, 5, (i : Int) + 1, 0, (i : Int) % 2, 1⟩], next + 1, next, 0⟩ := by simp only [openF]; rw [if_neg (fun h => h hfit), if_neg (by omega)]
        have hg2 := hG.snoc (k := 5) (o := (i : Int) + 1) (f := (i : Int) % 2) (by omega) (by omega)
        rw [e] at t ⊢
        have hnx' : next = (i : Int) + 1 := by omega
        refine walk (both g1 (both g5 (both g6 (both g7 (both hin hnx'))))) ?_
        exact Roundq.normal (z1.toNat - (i + 1)) (by omega) ⟨i + 1, sv', _, _, by omega, rfl, by simp [g1], by simp [g5], by simp [g6], by simp, t, hg2, by rw [List.length_append]; simp; omega, fun _ => by rw [List.length_append]; simp; omega, fun _ => by rw [List.length_append]; simp; omega⟩
      · have hl := hge (by omega)
        have e : openF l next n 5 ((i : Int) + 1) ((i : Int) % 2) = ⟨l, next, 0, 23⟩ := by simp only [openF]; rw [if_neg (fun h => h hfit), if_pos (by omega)]
        rw [e] at t ⊢
        refine walk (both g1 (both g5 (both g6 (both g7 hin)))) ?_
        exact Roundq.normal (z1.toNat - (i + 1)) (by omega) ⟨i + 1, sv', _, _, by omega, rfl, by simp [g1], by simp [g5], by simp [g6], by simp, t, hG, hnx, fun _ => by omega, fun _ => by omega⟩
    · refine walk (both g1 (both g5 (both g6 (both g7 hgo)))) ?_
      refine (lives_ok _).mono fun w H2 _ ⟨e1, e2⟩ => ?_
      subst e1; subst e2
      refine walk none0 ?_
      exact rfl
set_option maxHeartbeats 4000000 in
theorem filesNews_main (most id : Int) (H : Heap) (hm : In64 most) (hid : In64 id) : Cl Try.prog pr12 6 [.int .i64 most, .int .i64 id] H fun v _ => v = .bool true := by
  by_cases h : 1 ≤ most ∧ most ≤ 256
  · have hp0 : placeF [] id = none := rfl
    refine Cl.enter Try.func6 rfl rfl Try.ntmps6 (by simp) ?_
    refine walk none0 ?_
    refine (new_ok most h.1 h.2 H).mono fun w H1 _ ⟨p, e, hp, hT, hk⟩ => ?_
    subst e
    have hG := good_new h
    refine walk none0 ?_
    refine (room_ok hT hG).mono fun w H2 _ ⟨e1, e2⟩ => ?_
    subst e1; subst e2
    simp only [List.length_nil]
    refine walk none0 ?_
    refine (numbers_ok hT).mono fun w H2 _ ⟨e1, e2⟩ => ?_
    subst e1; subst e2
    refine walk none0 ?_
    refine (hold_ok hT hG (by omega) id).mono fun w H2 _ ⟨e1, u, hT2⟩ => ?_
    subst e1
    rw [updF_none hp0] at hT2 ⊢
    refine walk none0 ?_
    refine (seek_ok hT2 hG id 0).mono fun w H3 _ ⟨e1, u, hT3⟩ => ?_
    subst e1
    rw [updF_none hp0] at hT3 ⊢
    simp only [Int.lt_irrefl, false_and, if_false] at hT3 ⊢
    refine walk none0 ?_
    refine (setFlags_ok hT3 hG id 0 (by unfold In64; omega)).mono fun w H4 _ ⟨e1, u, hT4⟩ => ?_
    subst e1
    rw [updF_none hp0] at hT4 ⊢
    refine walk none0 ?_
    refine (lives_ok _).mono fun w H5 _ ⟨e1, e2⟩ => ?_
    subst e1; subst e2
    refine walk none0 ?_
    exact rfl
  · refine Cl.enter Try.func6 rfl rfl Try.ntmps6 (by simp) ?_
    refine walk none0 ?_
    refine (new_nil most (by omega) H).mono fun w H1 _ ⟨e1, e2⟩ => ?_
    subst e1; subst e2
    have hh : most < 1 ∨ 256 < most := by omega
    by_cases h1 : 1 ≤ most
    · have h2 : ¬ most ≤ 256 := by omega
      refine walk (both h1 h2) ?_
      refine (open_nil 1 1 0 _).mono fun w H2 _ ⟨e1, e2⟩ => ?_
      subst e1; subst e2
      refine walk none0 ?_
      refine (get_nil id _).mono fun w H3 _ ⟨⟨x, e1⟩, k3⟩ => ?_
      subst e1
      refine walk none0 ?_
      refine (drop_nil id _).mono fun w H4 _ ⟨e1, e2⟩ => ?_
      subst e1; subst e2
      refine walk none0 ?_
      refine (hold_nil id _).mono fun w H5 _ ⟨e1, e2⟩ => ?_
      subst e1; subst e2
      refine walk none0 ?_
      refine (seek_nil id 0 _).mono fun w H6 _ ⟨e1, e2⟩ => ?_
      subst e1; subst e2
      refine walk none0 ?_
      refine (setFlags_nil id 0 _).mono fun w H7 _ ⟨e1, e2⟩ => ?_
      subst e1; subst e2
      refine walk none0 ?_
      refine (room_nil _).mono fun w H8 _ ⟨e1, e2⟩ => ?_
      subst e1; subst e2
      refine walk none0 ?_
      refine (numbers_nil _).mono fun w H9 _ ⟨e1, e2⟩ => ?_
      subst e1; subst e2
      refine walk none0 ?_
      refine (dump_nil _).mono fun w H10 _ ⟨⟨da, dc, dx, e1⟩, e2⟩ => ?_
      subst e1; subst e2
      refine walk none0 ?_
      refine (lives_ok _).mono fun w H11 _ ⟨e1, e2⟩ => ?_
      subst e1; subst e2
      refine walk none0 ?_
      exact rfl
    · refine walk h1 ?_
      refine (open_nil 1 1 0 _).mono fun w H2 _ ⟨e1, e2⟩ => ?_
      subst e1; subst e2
      refine walk none0 ?_
      refine (get_nil id _).mono fun w H3 _ ⟨⟨x, e1⟩, k3⟩ => ?_
      subst e1
      refine walk none0 ?_
      refine (drop_nil id _).mono fun w H4 _ ⟨e1, e2⟩ => ?_
      subst e1; subst e2
      refine walk none0 ?_
      refine (hold_nil id _).mono fun w H5 _ ⟨e1, e2⟩ => ?_
      subst e1; subst e2
      refine walk none0 ?_
      refine (seek_nil id 0 _).mono fun w H6 _ ⟨e1, e2⟩ => ?_
      subst e1; subst e2
      refine walk none0 ?_
      refine (setFlags_nil id 0 _).mono fun w H7 _ ⟨e1, e2⟩ => ?_
      subst e1; subst e2
      refine walk none0 ?_
      refine (room_nil _).mono fun w H8 _ ⟨e1, e2⟩ => ?_
      subst e1; subst e2
      refine walk none0 ?_
      refine (numbers_nil _).mono fun w H9 _ ⟨e1, e2⟩ => ?_
      subst e1; subst e2
      refine walk none0 ?_
      refine (dump_nil _).mono fun w H10 _ ⟨⟨da, dc, dx, e1⟩, e2⟩ => ?_
      subst e1; subst e2
      refine walk none0 ?_
      refine (lives_ok _).mono fun w H11 _ ⟨e1, e2⟩ => ?_
      subst e1; subst e2
      refine walk none0 ?_
      exact rfl
end Go.Abs

/- Chapter 12: FilesActs, walked. -/
namespace Go.Abs
open Go.Proofs
set_option maxRecDepth 100000
set_option linter.unusedVariables false
set_option linter.unusedSimpArgs false

set_option maxHeartbeats 4000000 in
theorem filesActs_main (z0 : Int) (va : AV) (l0 : List ActI) (id : Int) (H : Heap) (h0 : 0 ≤ z0 ∧ z0 ≤ 255) (hl : ActL H va l0) : Cl Try.prog pr12 5 [.int .u8 z0, va, .int .i64 id] H fun v _ => v = .bool true := by
  have hn : 1 ≤ 1 + z0 % 10 ∧ 1 + z0 % 10 ≤ 256 := by omega
  have hmod : z0.tmod 10 = z0 % 10 := Int.tmod_eq_emod_of_nonneg h0.1
  obtain ⟨a, cap, ex, rfl, hlen⟩ := hl.form
  unfold maxLen at hlen
  refine Cl.enter Try.func5 rfl rfl Try.ntmps5 (by simp) ?_
  refine walk hmod ?_
  refine (new_ok (1 + z0 % 10) hn.1 hn.2 H).mono fun w H1 _ ⟨p, e, hp, hT, hk⟩ => ?_
  subst e
  have hk1 := hk.next
  generalize 1 + z0 % 10 = n at *
  refine walk none0 ?_
  refine (refNew_ok n H1).mono fun w H2 _ ⟨q, e, hq, hR, hk'⟩ => ?_
  subst e
  have hpl := hT.plt
  have hP : Pair H2 H.next p q (.slice none 0 0 none) (.slice none 0 0 none) [] 1 n := ⟨hT.kept hk', hR, by omega, by simp [slBlock], by simp [slBlock], by simp [slBlock], by omega, by omega, by simp [slBlock], by simp [slBlock]⟩
  have hk2 := hk'.next
  refine walk none0 ?_
  refine Wq.loop (fun m e H' => ∃ (i : Nat) (sv sw : AV) (l : List FileT) (next : Int), i ≤ 100 ∧ m = 100 - i ∧ e 1 = .slice a l0.length cap ex ∧ e 2 = .int .i64 id ∧ e 7 = .int .i64 n ∧ e 8 = .ptr (some (p, 0)) ∧ e 9 = .ptr (some (q, 0)) ∧ e 10 = .int .i64 i ∧ Pair H' H.next p q sv sw l next n ∧ GoodF l next n ∧ RefB l (1 + i) ∧ next ≤ 1 + i ∧ Upd (fun z => H.next ≤ z) H H') 100 ?_ ?_
  · exact ⟨0, _, _, [], 1, by omega, by omega, by simp, by simp, by simp, by simp, by simp, by simp, hP, good_new hn, by intro x hx; simp at hx, by omega, Upd.of (hk.then hk')⟩
  · rintro m e H' ⟨i, sv, sw, l, next, hi, rfl, g1, g2, g7, g8, g9, g10, hP, hG, hB, hnx, hU⟩
    have hGf := hG.fit
    have hUn := hU.next
    by_cases hlt : i < l0.length
    · by_cases h100 : i < 100
      · obtain ⟨x, hx⟩ := get_lt hlt
        have hl' := hl.upd hU fun z hz => by omega
        obtain ⟨b, o, c, t, w, mk, rfl, hb1, hb2, hb3, hb4, ia, ib, _⟩ := hl'.at hx
        refine walk (both g1 (both g2 (both g7 (both g8 (both g9 (both g10 (both hlt h100))))))) ?_
        refine Wq.regionM [(0, 0), (1, 0), (2, 0), (3, 0), (4, 0), (5, 0), (6, 0), (7, 0), (8, 0), (9, 0), (10, 0), (11, 0), (12, 0), (13, 0), (14, 2), (15, 0), (16, 0), (17, 0), (18, 0), (19, 0), (20, 0), (21, 0), (22, 0), (23, 0), (24, 0), (25, 2), (26, 0), (27, 0), (28, 0), (29, 0), (30, 0), (31, 0), (32, 0), (33, 0), (34, 0), (35, 0), (36, 2), (37, 0), (38, 0)] (by kernel_rfl) ?_
        refine mwalk (both g1 (both g2 (both g7 (both g8 (both g9 (both g10 (both hb2 hb4))))))) ?_
        refine (does_ok hP (by omega) hG (by omega) x.k x.id x.a x.b ia ib).mono fun w H3 _ ⟨e1, sv', sw', hP3, hU3⟩ => ?_
        subst e1
        obtain ⟨hG3, hB3, hn3, hn3'⟩ := act_good (k := x.k) (id := x.id) (a := x.a) (b := x.b) hG hB (by omega)
        generalize actF l next n x.k x.id x.a x.b = R at *
        obtain ⟨l3, next3⟩ := R
        simp only at hP3 hG3 hB3 hn3 hn3'
        have hGf3 := hG3.fit
        have hw3 := hP3.r.t
        refine mwalk (both g7 (both g8 g9)) ?_
        refine (dump_ok hP3.t hG3).mono fun w H4 _ hF => ?_
        obtain ⟨da, dx, rfl, _⟩ := hF.own.form
        have hP4 := hP3.kept hF.keep
        have hw4 := hP4.r.t
        obtain ⟨wa, wc, wx, rfl, _⟩ := hP4.r.own.form
        refine mwalk (both g7 (both g8 (both g9 (both hw4 hw3)))) ?_
        refine (same_ok (l := l3) hF.own.sl hP4.r.own.sl (by omega)).mono fun w H5 _ ⟨e1, e2⟩ => ?_
        subst e1; subst e2
        refine mwalk (both g7 (both g8 (both g9 (both hw4 hw3)))) ?_
        refine (room_ok hP4.t hG3).mono fun w H6 _ ⟨e1, e2⟩ => ?_
        subst e1; subst e2
        refine mwalk (both g7 (both g8 (both g9 (both hw4 hw3)))) ?_
        refine (numbers_ok hP4.t).mono fun w H7 _ ⟨e1, e2⟩ => ?_
        subst e1; subst e2
        refine mwalk (both g7 (both g8 (both g9 (both hw4 hw3)))) ?_
        refine walk g10 ?_
        refine Roundq.normal (100 - (i + 1)) (by omega) ⟨i + 1, sv', _, l3, next3, by omega, rfl, by simp [g1], by simp [g2], by simp [g7], by simp [g8], by simp [g9], by simp, hP4, hG3, fun y hy => ?_, ?_, (hU.trans hU3 fun z _ e => e).then hF.keep⟩
        · have := hB3 y hy
          simp; omega
        · simp; omega
      · refine walk (both g1 (both g2 (both g7 (both g8 (both g9 (both g10 (both hlt h100))))))) ?_
        refine (get_ok hP.t hG id).mono fun w H3 _ ⟨⟨x, t, e1, hx⟩, hk3⟩ => ?_
        subst e1
        unfold encF
        have hP3 := hP.kept hk3
        refine walk (both g2 g9) ?_
        have k4 : Keep H3 (H3.push (.cells [.int .i64 0, .int .i64 0, .int .i64 0, .int .i64 0, .int .i64 0, .int .i64 0] 39 true false)) := Upd.rfl.push _
        have hset : Keep H3 ((H3.push (.cells [.int .i64 0, .int .i64 0, .int .i64 0, .int .i64 0, .int .i64 0, .int .i64 0] 39 true false)).set H3.next (.cells [.int .i64 x.id, .int .i64 x.kind, .int .i64 x.obj, .int .i64 x.off, .int .i64 x.flags, .int .i64 x.refs] 39 true false)) := k4.set _ (by simp) (by simp)
        have hP4 := hP3.kept hset
        have hg4 : ((H3.push (.cells [.int .i64 0, .int .i64 0, .int .i64 0, .int .i64 0, .int .i64 0, .int .i64 0] 39 true false)).set H3.next (.cells [.int .i64 x.id, .int .i64 x.kind, .int .i64 x.obj, .int .i64 x.off, .int .i64 x.flags, .int .i64 x.refs] 39 true false)).get H3.next = some (.cells [.int .i64 x.id, .int .i64 x.kind, .int .i64 x.obj, .int .i64 x.off, .int .i64 x.flags, .int .i64 x.refs] 39 true false) := Heap.get_set_same _ _ _
        generalize (H3.push (.cells [.int .i64 0, .int .i64 0, .int .i64 0, .int .i64 0, .int .i64 0, .int .i64 0] 39 true false)).set H3.next (.cells [.int .i64 x.id, .int .i64 x.kind, .int .i64 x.obj, .int .i64 x.off, .int .i64 x.flags, .int .i64 x.refs] 39 true false) = H4 at *
        have hw4 := hP4.r.t
        refine (refAt_ok hP4.r (by omega) id).mono fun w H5 _ ⟨e1, e2⟩ => ?_
        subst e1; subst e2
        obtain ⟨wa, wc, wx, rfl, _⟩ := hP4.r.own.form
        rcases hx with ⟨rfl, j, hj, hxj⟩ | ⟨rfl, hj, rfl⟩
        · rw [hj]
          obtain ⟨b', o', c', rfl, hb1', hb2', hb3', hb4', _⟩ := hP4.r.file hxj
          unfold encF at hb4'
          have he := fun H => eqF_eq x x H
          simp only [decide_true] at he
          have hji := lt_of_get? hxj
          refine walk g9 ?_
          refine Wq.regionD [0, 1, 2, 3, 4, 5, 6, 7, 8, 9, 10, 11, 12, 13, 14, 15, 16, 17, 18, 19, 20, 21, 22, 23, 24, 25, 26, 27, 28, 29, 30] (by kernel_rfl) ?_
          refine walk (both g9 (both hw4 (both hb2' (both hb4' (both hg4 he))))) ?_
          refine (lives_ok _).mono fun w H6 _ ⟨e1, e2⟩ => ?_
          subst e1; subst e2
          refine walk none0 ?_
          exact rfl
        · rw [hj]
          have he := fun H => eqF_eq ⟨0, 0, 0, 0, 0, 0⟩ ⟨0, 0, 0, 0, 0, 0⟩ H
          simp only [decide_true] at he hg4
          refine walk g9 ?_
          refine Wq.regionD [0, 1, 2, 3, 4, 5, 6, 7, 8, 9, 10, 11, 12, 13, 14, 15, 16, 17, 18, 19, 20, 21, 22, 23, 24, 25, 26, 27, 28, 29, 30] (by kernel_rfl) ?_
          refine walk (both g9 (both hw4 (both hg4 he))) ?_
          refine (lives_ok _).mono fun w H6 _ ⟨e1, e2⟩ => ?_
          subst e1; subst e2
          refine walk none0 ?_
          exact rfl
    · refine walk (both g1 (both g2 (both g7 (both g8 (both g9 (both g10 hlt)))))) ?_
      refine (get_ok hP.t hG id).mono fun w H3 _ ⟨⟨x, t, e1, hx⟩, hk3⟩ => ?_
      subst e1
      unfold encF
      have hP3 := hP.kept hk3
      refine walk (both g2 g9) ?_
      have k4 : Keep H3 (H3.push (.cells [.int .i64 0, .int .i64 0, .int .i64 0, .int .i64 0, .int .i64 0, .int .i64 0] 39 true false)) := Upd.rfl.push _
      have hset : Keep H3 ((H3.push (.cells [.int .i64 0, .int .i64 0, .int .i64 0, .int .i64 0, .int .i64 0, .int .i64 0] 39 true false)).set H3.next (.cells [.int .i64 x.id, .int .i64 x.kind, .int .i64 x.obj, .int .i64 x.off, .int .i64 x.flags, .int .i64 x.refs] 39 true false)) := k4.set _ (by simp) (by simp)
      have hP4 := hP3.kept hset
      have hg4 : ((H3.push (.cells [.int .i64 0, .int .i64 0, .int .i64 0, .int .i64 0, .int .i64 0, .int .i64 0] 39 true false)).set H3.next (.cells [.int .i64 x.id, .int .i64 x.kind, .int .i64 x.obj, .int .i64 x.off, .int .i64 x.flags, .int .i64 x.refs] 39 true false)).get H3.next = some (.cells [.int .i64 x.id, .int .i64 x.kind, .int .i64 x.obj, .int .i64 x.off, .int .i64 x.flags, .int .i64 x.refs] 39 true false) := Heap.get_set_same _ _ _
      generalize (H3.push (.cells [.int .i64 0, .int .i64 0, .int .i64 0, .int .i64 0, .int .i64 0, .int .i64 0] 39 true false)).set H3.next (.cells [.int .i64 x.id, .int .i64 x.kind, .int .i64 x.obj, .int .i64 x.off, .int .i64 x.flags, .int .i64 x.refs] 39 true false) = H4 at *
      have hw4 := hP4.r.t
      refine (refAt_ok hP4.r (by omega) id).mono fun w H5 _ ⟨e1, e2⟩ => ?_
      subst e1; subst e2
      obtain ⟨wa, wc, wx, rfl, _⟩ := hP4.r.own.form
      rcases hx with ⟨rfl, j, hj, hxj⟩ | ⟨rfl, hj, rfl⟩
      · rw [hj]
        obtain ⟨b', o', c', rfl, hb1', hb2', hb3', hb4', _⟩ := hP4.r.file hxj
        unfold encF at hb4'
        have he := fun H => eqF_eq x x H
        simp only [decide_true] at he
        have hji := lt_of_get? hxj
        refine walk g9 ?_
        refine Wq.regionD [0, 1, 2, 3, 4, 5, 6, 7, 8, 9, 10, 11, 12, 13, 14, 15, 16, 17, 18, 19, 20, 21, 22, 23, 24, 25, 26, 27, 28, 29, 30] (by kernel_rfl) ?_
        refine walk (both g9 (both hw4 (both hb2' (both hb4' (both hg4 he))))) ?_
        refine (lives_ok _).mono fun w H6 _ ⟨e1, e2⟩ => ?_
        subst e1; subst e2
        refine walk none0 ?_
        exact rfl
      · rw [hj]
        have he := fun H => eqF_eq ⟨0, 0, 0, 0, 0, 0⟩ ⟨0, 0, 0, 0, 0, 0⟩ H
        simp only [decide_true] at he hg4
        refine walk g9 ?_
        refine Wq.regionD [0, 1, 2, 3, 4, 5, 6, 7, 8, 9, 10, 11, 12, 13, 14, 15, 16, 17, 18, 19, 20, 21, 22, 23, 24, 25, 26, 27, 28, 29, 30] (by kernel_rfl) ?_
        refine walk (both g9 (both hw4 (both hg4 he))) ?_
        refine (lives_ok _).mono fun w H6 _ ⟨e1, e2⟩ => ?_
        subst e1; subst e2
        refine walk none0 ?_
        exact rfl
end Go.Abs

/- Chapter 12: FilesCounts, walked. -/
namespace Go.Abs
open Go.Proofs
set_option maxRecDepth 100000
set_option linter.unusedVariables false
set_option linter.unusedSimpArgs false

theorem sum_set {l : List Int} {k : Nat} {v w : Int} (h : l[k]? = some w) : (l.set k v).sum = l.sum + v - w := by
  induction l generalizing k with
  | nil => simp at h
  | cons a l ih => cases k with
    | zero => simp at h; subst h; simp; omega
    | succ k => have := ih (k := k) (by simpa using h); simp [this]; omega
theorem sum_erase {l : List Int} {k : Nat} {w : Int} (h : l[k]? = some w) : (l.eraseIdx k).sum = l.sum - w := by
  induction l generalizing k with
  | nil => simp at h
  | cons a l ih => cases k with
    | zero => simp at h; subst h; simp; omega
    | succ k => have := ih (k := k) (by simpa using h); simp [this]; omega
theorem map_erase {α β : Type} {f : α → β} {l : List α} {k : Nat} : (l.eraseIdx k).map f = (l.map f).eraseIdx k := by
  induction l generalizing k with
  | nil => rfl
  | cons a l ih => cases k with
    | zero => rfl
    | succ k => simp [ih]
structure MI (cs : List Int) (l : List FileT) (next r : Int) : Prop where
  len : cs.length = 300
  has : ∀ x ∈ l, cs[x.id.toNat]? = some x.refs
  rest : ∀ k : Nat, next ≤ k → k < 300 → cs[k]? = some 0
  sum : cs.sum = (l.map FileT.refs).sum
  pos : ∀ c ∈ cs, 0 ≤ c ∧ c ≤ r
theorem MI.more {cs : List Int} {l : List FileT} {next r r' : Int} (h : MI cs l next r) (hr : r ≤ r') : MI cs l next r' := { h with pos := fun c hc => by have := h.pos c hc; omega }
theorem rise_ne {l : List FileT} {i j : Nat} {x y : FileT} (hr : Rise l) (hx : l[i]? = some x) (hy : l[j]? = some y) (h : i ≠ j) : x.id ≠ y.id := by
  rcases Nat.lt_or_ge i j with h' | h'
  · have := hr i j x y hx hy h'; omega
  · have := hr j i y x hy hx (by omega); omega
theorem cs_set_mem {cs : List Int} {k : Nat} {v c : Int} (h : c ∈ cs.set k v) : c = v ∨ c ∈ cs := by
  rcases List.mem_or_eq_of_mem_set h with h | h
  · exact .inr h
  · exact .inl h
theorem MI.upd {cs : List Int} {l : List FileT} {next most r v : Int} {j : Nat} {x y : FileT} (h : MI cs l next r) (g : GoodF l next most) (hn : next ≤ 300) (hx : l[j]? = some x) (hid : y.id = x.id) (hv : y.refs = v) (hv0 : 0 ≤ v ∧ v ≤ r + 1) : MI (cs.set x.id.toNat v) (l.set j y) next (r + 1) := by
  have hm := List.mem_of_getElem? hx
  have hi := g.ids x hm
  have hc := h.has x hm
  refine ⟨by rw [List.length_set]; exact h.len, fun z hz => ?_, fun k hk hk3 => ?_, ?_, fun c hc => ?_⟩
  · obtain ⟨k, hk⟩ := List.mem_iff_getElem?.1 hz
    have hkl := lt_of_get? hk
    rw [List.length_set] at hkl
    rw [List.getElem?_set] at hk
    split at hk
    · rename_i e
      subst e
      rw [if_pos hkl] at hk
      injection hk with hk; subst hk
      rw [hid, List.getElem?_set_self (by rw [h.len]; omega), hv]
    · rename_i e
      have hne := rise_ne g.rise hx hk e
      have hzi := g.ids z (List.mem_of_getElem? hk)
      rw [List.getElem?_set_ne (by omega)]
      exact h.has z (List.mem_of_getElem? hk)
  · rw [List.getElem?_set_ne (by omega)]
    exact h.rest k hk hk3
  · rw [sum_set hc, h.sum, List.map_set, sum_set (w := x.refs) (by rw [List.getElem?_map, hx]; rfl), hv]
  · rcases cs_set_mem hc with rfl | hc
    · exact hv0
    · have := h.pos c hc; omega
theorem MI.erase {cs : List Int} {l : List FileT} {next most r : Int} {j : Nat} {x : FileT} (h : MI cs l next r) (g : GoodF l next most) (hn : next ≤ 300) (hx : l[j]? = some x) (h1 : x.refs = 1) : MI (cs.set x.id.toNat 0) (l.eraseIdx j) next (r + 1) := by
  have hm := List.mem_of_getElem? hx
  have hi := g.ids x hm
  have hc := h.has x hm
  have hp := h.pos x.refs (List.mem_of_getElem? hc)
  refine ⟨by rw [List.length_set]; exact h.len, fun z hz => ?_, fun k hk hk3 => ?_, ?_, fun c hc => ?_⟩
  · obtain ⟨k, hk⟩ := List.mem_iff_getElem?.1 hz
    rw [List.getElem?_eraseIdx] at hk
    have hne : z.id ≠ x.id := by
      split at hk
      · exact rise_ne g.rise hk hx (by omega)
      · exact rise_ne g.rise hk hx (by omega)
    have hzm : z ∈ l := List.mem_of_mem_eraseIdx hz
    have hzi := g.ids z hzm
    rw [List.getElem?_set_ne (by omega)]
    exact h.has z hzm
  · rw [List.getElem?_set_ne (by omega)]
    exact h.rest k hk hk3
  · rw [sum_set hc, h.sum, map_erase, sum_erase (w := x.refs) (by rw [List.getElem?_map, hx]; rfl)]; omega
  · rcases cs_set_mem hc with rfl | hc
    · omega
    · have := h.pos c hc; omega
theorem MI.snoc {cs : List Int} {l : List FileT} {next most r k o f : Int} (h : MI cs l next r) (g : GoodF l next most) (hn : next < 300) (hr : 0 ≤ r) : MI (cs.set next.toNat 1) (l ++ [⟨next, k, o, 0, f, 1⟩]) (next + 1) (r + 1) := by
  have hnx := g.nxt
  have h0 := h.rest next.toNat (by omega) (by omega)
  refine ⟨by rw [List.length_set]; exact h.len, fun z hz => ?_, fun k hk hk3 => ?_, ?_, fun c hc => ?_⟩
  · rw [List.mem_append] at hz
    rcases hz with hz | hz
    · have hzi := g.ids z hz
      rw [List.getElem?_set_ne (by omega)]
      exact h.has z hz
    · simp at hz; subst hz
      exact List.getElem?_set_self (by rw [h.len]; omega)
  · rw [List.getElem?_set_ne (by omega)]
    exact h.rest k (by omega) hk3
  · rw [sum_set h0, h.sum]; simp
  · rcases cs_set_mem hc with rfl | hc
    · omega
    · have := h.pos c hc; omega
theorem MI.new {n : Int} (hn : 1 ≤ n) : MI (List.replicate 300 0) [] 1 1 :=
  ⟨by simp, by simp, fun k _ hk => by rw [List.getElem?_replicate]; simp [hk], by simp, fun c hc => by rw [List.mem_replicate] at hc; omega⟩
def intsC (cs : List Int) : List AV := cs.map fun z => .int .i64 z

theorem zeros_ints : ∀ n, zeros [.int .i64 0] n = intsC (List.replicate n 0)
  | 0 => rfl
  | n + 1 => by rw [List.replicate_succ]; simp only [zeros, intsC, List.map_cons, List.cons_append, List.nil_append]; rw [zeros_ints n]; rfl
theorem make300 : ∃ cs, MI cs [] 1 1 ∧ ∀ H, makeSliceR Try.prog 30 (some (.int .i64 300)) (some (.int .i64 300)) H = some (.slice (some (H.next, 0)) 300 300 none, H.push (.cells (intsC cs) 3 true false)) := by
  refine ⟨List.replicate 300 0, MI.new (n := 1) (by omega), fun H => ?_⟩
  have h : elemF Try.prog 30 = some (3, 8, 1, [.int .i64 0]) := by kernel_rfl
  rw [makeSliceR_eq h (by omega)]
  rw [← zeros_ints]
  rfl
structure Cnt (H : Heap) (lo p mb : Nat) (sv : AV) (l : List FileT) (next : Int) (cs : List Int) (r : Int) : Prop where
  t : TabR H 55 p sv l next 200
  m : H.get mb = some (.cells (intsC cs) 3 true false)
  mlt : mb < H.next
  pm : p ≠ mb
  sm : slBlock sv ≠ some mb
  lp : lo ≤ p
  lm : lo ≤ mb
  ls : ∀ z, slBlock sv = some z → lo ≤ z
  mi : MI cs l next r
  g : GoodF l next 200
  rf : RefB l r
theorem intsC_get {cs : List Int} {k : Nat} {v : Int} (h : cs[k]? = some v) : (intsC cs)[k]? = some (.int .i64 v) := by
  unfold intsC; rw [List.getElem?_map, h]; rfl
theorem intsC_set {cs : List Int} {k : Nat} {v : Int} : (intsC cs).set k (.int .i64 v) = intsC (cs.set k v) := by
  unfold intsC; rw [List.map_set]
@[simp] theorem intsC_len {cs : List Int} : (intsC cs).length = cs.length := by simp [intsC]

theorem Cnt.step {H' HB H2 : Heap} {lo p mb : Nat} {sv sv' : AV} {l l' : List FileT} {next next' r r' : Int} {cs : List Int} (hC : Cnt H' lo p mb sv l next cs r) (hlo : lo ≤ H'.next) (kB : Keep H' HB) (u : Upd (fun z => z = p ∨ slBlock sv = some z) HB H2) (f : Fro HB sv sv') (t2 : TabR H2 55 p sv' l' next' 200) (g' : GoodF l' next' 200) (rf' : RefB l' r') :
    H2.get mb = some (.cells (intsC cs) 3 true false) ∧ Upd (fun z => lo ≤ z) H' H2 ∧ mb < H2.next ∧ (∀ b o, H'.next ≤ b → b < HB.next → HB.get b = some o → H2.get b = some o) ∧
    (MI cs l' next' r' → Cnt H2 lo p mb sv' l' next' cs r') ∧ ∀ cs', MI cs' l' next' r' → Cnt (H2.set mb (.cells (intsC cs') 3 true false)) lo p mb sv' l' next' cs' r' := by
  have hkn := kB.next
  have hun := u.next
  have hmlt := hC.mlt
  have hplt := hC.t.plt
  have hm2 : H2.get mb = some (.cells (intsC cs) 3 true false) := by
    rw [u.keep mb (by omega) (fun e => by rcases e with e | e; exact hC.pm e.symm; exact hC.sm e), kB.get hmlt]; exact hC.m
  have hs2 : slBlock sv' ≠ some mb := fun e => by
    rcases f mb e with h | h
    · exact hC.sm h
    · omega
  have hls : ∀ z, slBlock sv' = some z → lo ≤ z := fun z hz => by
    rcases f z hz with h | h
    · exact hC.ls z h
    · omega
  refine ⟨hm2, ?_, by omega, fun b o hb hb2 hg => ?_, fun h => ⟨t2, hm2, by omega, hC.pm, hs2, hC.lp, hC.lm, hls, h, g', rf'⟩, fun cs' h => ⟨?_, Heap.get_set_same _ _ _, by simp; omega, hC.pm, hs2, hC.lp, hC.lm, hls, h, g', rf'⟩⟩
  · refine (Upd.of kB).trans u fun z _ e => ?_
    rcases e with e | e
    · exact e ▸ hC.lp
    · exact hC.ls z e
  · refine (u.keep b hb2 fun e => ?_).trans hg
    rcases e with e | e
    · omega
    · have := hC.t.lt b e; omega
  · exact t2.keep (Upd.rfl.set (fp := fun z => z = mb) _ (by omega) fun _ => rfl) hC.pm fun z hz e => hs2 (e ▸ hz)
theorem sum_take {l : List Int} {i : Nat} {v : Int} (h : l[i]? = some v) : (l.take (i + 1)).sum = (l.take i).sum + v := by
  induction l generalizing i with
  | nil => simp at h
  | cons a l ih => cases i with
    | zero => simp at h; subst h; simp
    | succ i => have := ih (i := i) (by simpa using h); simp only [List.take_succ_cons, List.sum_cons]; omega
theorem sum_bound {l : List Int} {B : Int} (h : ∀ c ∈ l, 0 ≤ c ∧ c ≤ B) : 0 ≤ l.sum ∧ l.sum ≤ l.length * B := by
  induction l with
  | nil => simp
  | cons a l ih =>
    have h1 := h a (by simp)
    have h2 := ih fun c hc => h c (by simp [hc])
    simp only [List.sum_cons, List.length_cons, Int.natCast_add, Int.add_mul]
    omega
theorem take_bound {l : List Int} {B : Int} (h : ∀ c ∈ l, 0 ≤ c ∧ c ≤ B) (i : Nat) : 0 ≤ (l.take i).sum ∧ (l.take i).sum ≤ l.length * B := by
  have h1 := sum_bound (l := l.take i) fun c hc => h c (List.mem_of_mem_take hc)
  have h2 := sum_bound (l := l.drop i) fun c hc => h c (List.mem_of_mem_drop hc)
  have h3 := sum_bound h
  have e : (l.take i).sum + (l.drop i).sum = l.sum := by rw [← List.sum_append, List.take_append_drop]
  omega
theorem file_two {H : Heap} {a : Option (Nat × Nat)} {cap : Nat} {ex : Option Nat} {l : List FileT} {i : Nat} {x : FileT} (h : Sl H 6 (.slice a l.length cap ex) l.length (flat encF l)) (hx : l[i]? = some x) :
    ∃ b o c t w m, a = some (b, o) ∧ b < H.next ∧ H.get b = some (.cells c t w m) ∧ o + i * 6 + 6 ≤ c.length ∧ c[o + i * 6]? = some (.int .i64 x.id) ∧ c[o + i * 6 + 5]? = some (.int .i64 x.refs) := by
  obtain ⟨b, o, c, t, w, m, rfl, h1, h2, h3, h4⟩ := file_at h hx
  refine ⟨b, o, c, t, w, m, rfl, h1, h2, h3, ?_, ?_⟩
  · have := sub_get (i := 0) h4 (by omega); simpa [encF] using this
  · have := sub_get (i := 5) h4 (by omega); simpa [encF] using this
set_option maxHeartbeats 4000000 in
theorem filesCounts_main (va : AV) (l0 : List ActI) (H : Heap) (hl : ActL H va l0) : Cl Try.prog pr12 4 [va] H fun v _ => v = .bool true := by
  obtain ⟨a, cap, ex, rfl, hlen⟩ := hl.form
  unfold maxLen at hlen
  obtain ⟨cs0, hcs0, hmk⟩ := make300
  refine Cl.enter Try.func4 rfl rfl Try.ntmps4 (by simp) ?_
  refine walk none0 ?_
  refine (new_ok 200 (by omega) (by omega) H).mono fun w H1 _ ⟨p, e, hp, hT, hk⟩ => ?_
  subst e
  have hk1 := hk.next
  refine walk hmk ?_
  have hpl := hT.plt
  have kk : Keep H1 (H1.push (.cells (intsC cs0) 3 true false)) := Upd.rfl.push _
  have hC0 : Cnt (H1.push (.cells (intsC cs0) 3 true false)) H.next p H1.next (.slice none 0 0 none) [] 1 cs0 1 := ⟨hT.kept kk, by rw [Heap.get_push, if_pos rfl], by simp, by omega, by simp [slBlock], hp, hk1, by simp [slBlock], hcs0, good_new (by omega), by intro x hx; simp at hx⟩
  refine Wq.loop (fun m e H' => ∃ (i : Nat) (sv : AV) (l : List FileT) (next : Int) (cs : List Int), i ≤ 100 ∧ m = 100 - i ∧ e 0 = .slice a l0.length cap ex ∧ e 3 = .ptr (some (p, 0)) ∧ e 4 = .slice (some (H1.next, 0)) 300 300 none ∧ e 5 = .int .i64 i ∧ Cnt H' H.next p H1.next sv l next cs (1 + i) ∧ next ≤ 1 + i ∧ Upd (fun z => H.next ≤ z) H H') 100 ?_ ?_
  · exact ⟨0, _, [], 1, cs0, by omega, by omega, by simp, by simp, by simp, by simp, hC0, by omega, Upd.of (hk.then kk)⟩
  · rintro m e H' ⟨i, sv, l, next, cs, hi, rfl, g0, g3, g4, g5, hC, hnx, hU⟩
    have hGf := hC.g.fit
    have hUn := hU.next
    by_cases hlt : i < l0.length
    · by_cases h100 : i < 100
      · obtain ⟨x, hx⟩ := get_lt hlt
        have hl' := hl.upd hU fun z hz => by omega
        obtain ⟨b, o, c, t, w, mk, rfl, hb1, hb2, hb3, hb4, ia, ib, _⟩ := hl'.at hx
        have kB : Keep H' ((H'.push (.cells [.int .i64 0, .int .i64 0, .int .i64 0, .int .i64 0] 32 true false)).set H'.next (.cells [.int .i64 x.k, .int .i64 x.id, .int .i64 x.a, .int .i64 x.b] 32 true false)) := (Upd.rfl.push _).set _ (by simp) (by simp)
        have gB : ((H'.push (.cells [.int .i64 0, .int .i64 0, .int .i64 0, .int .i64 0] 32 true false)).set H'.next (.cells [.int .i64 x.k, .int .i64 x.id, .int .i64 x.a, .int .i64 x.b] 32 true false)).get H'.next = some (.cells [.int .i64 x.k, .int .i64 x.id, .int .i64 x.a, .int .i64 x.b] 32 true false) := Heap.get_set_same _ _ _
        have nB : H'.next < ((H'.push (.cells [.int .i64 0, .int .i64 0, .int .i64 0, .int .i64 0] 32 true false)).set H'.next (.cells [.int .i64 x.k, .int .i64 x.id, .int .i64 x.a, .int .i64 x.b] 32 true false)).next := by simp
        have hTB := hC.t.kept kB
        by_cases hk1 : x.k = 1
        · rw [hk1] at kB gB nB hTB
          refine walk (both g0 (both g3 (both g4 (both g5 (both hlt (both h100 (both hb2 (both hb4 hk1)))))))) ?_
          refine (hold_ok hTB hC.g (by omega) x.id).mono fun w H2 _ ⟨e1, u', t2⟩ => ?_
          subst e1
          obtain ⟨gg, rr⟩ := upd_good (id := x.id) (f := fun x => { x with refs := x.refs + 1 }) hC.g hC.rf (by omega) (fun _ => rfl) (fun _ h => h) (fun x => ⟨by simp; omega, by simp⟩)
          obtain ⟨m2, U2, ml2, bx, c1, c2⟩ := hC.step (by omega) kB (Upd.rfl.trans u' fun z _ e => .inr e) (fun z hz => .inl hz) t2 gg rr
          have gB2 := bx _ _ (Nat.le_refl _) nB gB
          cases hp : placeF l x.id with
          | none =>
            rw [updF_none hp] at c1 c2 ⊢
            refine walk g5 ?_
            exact Roundq.normal (100 - (i + 1)) (by omega) ⟨i + 1, sv, l, next, cs, by omega, rfl, by simp [g0], by simp [g3], by simp [g4], by simp, by simpa [Int.add_assoc] using c1 (hC.mi.more (by omega)), by omega, hU.trans U2 fun z _ e => e⟩
          | some j =>
            obtain ⟨y, hy, hid⟩ := place_at hp
            rw [updF_some hp hy] at c1 c2 ⊢
            have hym := List.mem_of_getElem? hy
            have hyi := hC.g.ids y hym
            have hyr := hC.g.ref y hym
            have hyb := hC.rf y hym
            have hcy := intsC_get (hC.mi.has y hym)
            have hcl := hC.mi.len
            rw [hid] at hcy hyi
            refine walk (both g4 (both g5 (both gB2 (both m2 hcy)))) ?_
            rw [intsC_set]
            have hmi := hC.mi.upd (v := y.refs + 1) hC.g (by omega) hy (y := { y with refs := y.refs + 1 }) rfl rfl (by omega)
            rw [show y.id.toNat = x.id.toNat by rw [hid]] at hmi
            exact Roundq.normal (100 - (i + 1)) (by omega) ⟨i + 1, sv, _, next, _, by omega, rfl, by simp [g0], by simp [g3], by simp [g4], by simp, by simpa [Int.add_assoc] using c2 _ hmi, by omega, (hU.trans U2 fun z _ e => e).set _ ml2 fun _ => by omega⟩
        · by_cases hk2 : x.k = 2
          · rw [hk2] at kB gB nB hTB
            refine walk (both g0 (both g3 (both g4 (both g5 (both hlt (both h100 (both hb2 (both hb4 (both hk1 hk2))))))))) ?_
            refine (drop_ok hTB hC.g (by omega) x.id).mono fun w H2 _ ⟨e1, sv', f1, u', t2⟩ => ?_
            subst e1
            obtain ⟨gg, rr⟩ := drop_good (id := x.id) hC.g hC.rf
            obtain ⟨m2, U2, ml2, bx, c1, c2⟩ := hC.step (by omega) kB u' (fun z hz => .inl (f1 ▸ hz)) t2 gg (r' := 1 + i + 1) (fun y hy => by have := rr y hy; omega)
            have gB2 := bx _ _ (Nat.le_refl _) nB gB
            cases hp : placeF l x.id with
            | none =>
              rw [dropF_none hp] at c1 c2 ⊢
              refine walk g5 ?_
              exact Roundq.normal (100 - (i + 1)) (by omega) ⟨i + 1, sv', l, next, cs, by omega, rfl, by simp [g0], by simp [g3], by simp [g4], by simp, by simpa [Int.add_assoc] using c1 (hC.mi.more (by omega)), by omega, hU.trans U2 fun z _ e => e⟩
            | some j =>
              obtain ⟨y, hy, hid⟩ := place_at hp
              have hym := List.mem_of_getElem? hy
              have hyi := hC.g.ids y hym
              have hyr := hC.g.ref y hym
              have hyb := hC.rf y hym
              have hcy := intsC_get (hC.mi.has y hym)
              have hcl := hC.mi.len
              rw [hid] at hcy hyi
              by_cases hy1 : 1 < y.refs
              · rw [dropF_more hp hy hy1] at c1 c2 ⊢
                refine walk (both g4 g5) ?_
                refine Wq.regionD [0, 1, 2, 3, 4, 5, 6, 7, 8, 9, 10] (by kernel_rfl) ?_
                refine walk (both g4 (both g5 (both gB2 (both m2 hcy)))) ?_
                rw [intsC_set]
                have hmi := hC.mi.upd (v := y.refs - 1) hC.g (by omega) hy (y := { y with refs := y.refs - 1 }) rfl rfl (by omega)
                rw [show y.id.toNat = x.id.toNat by rw [hid]] at hmi
                exact Roundq.normal (100 - (i + 1)) (by omega) ⟨i + 1, sv', _, next, _, by omega, rfl, by simp [g0], by simp [g3], by simp [g4], by simp, by simpa [Int.add_assoc] using c2 _ hmi, by omega, (hU.trans U2 fun z _ e => e).set _ ml2 fun _ => by omega⟩
              · rw [dropF_last hp hy hy1] at c1 c2 ⊢
                have hy2 : y.refs = 1 := by omega
                rw [hy2] at hcy
                refine walk (both g4 g5) ?_
                refine Wq.regionD [0, 1, 2, 3, 4, 5, 6, 7, 8, 9, 10] (by kernel_rfl) ?_
                refine walk (both g4 (both g5 (both gB2 (both m2 hcy)))) ?_
                rw [intsC_set]
                have hmi := hC.mi.erase hC.g (by omega) hy hy2
                rw [show y.id.toNat = x.id.toNat by rw [hid]] at hmi
                exact Roundq.normal (100 - (i + 1)) (by omega) ⟨i + 1, sv', _, next, _, by omega, rfl, by simp [g0], by simp [g3], by simp [g4], by simp, by simpa [Int.add_assoc] using c2 _ hmi, by omega, (hU.trans U2 fun z _ e => e).set _ ml2 fun _ => by omega⟩
          · refine walk (both g0 (both g3 (both g4 (both g5 (both hlt (both h100 (both hb2 (both hb4 (both hk1 hk2))))))))) ?_
            refine (open_ok hTB hC.g (by omega) x.id x.a x.b ib).mono fun w H2 _ ⟨e1, sv', u', f1, t2⟩ => ?_
            subst e1
            obtain ⟨gg, rr, _, _⟩ := open_good (k := x.id) (o := x.a) (f := x.b) hC.g hC.rf (by omega)
            obtain ⟨m2, U2, ml2, bx, c1, c2⟩ := hC.step (by omega) kB u' f1 t2 gg (r' := 1 + i + 1) (fun y hy => by have := rr y hy; omega)
            have hcl := hC.mi.len
            have hnx1 := hC.g.nxt
            by_cases hfit : FitsF x.id x.a x.b
            · by_cases hfull : (200 : Int) ≤ l.length
              · have e : openF l next 200 x.id x.a x.b = ⟨l, next, 0, 23⟩ := by simp only [openF]; rw [if_neg (fun h => h hfit), if_pos hfull]
                rw [e] at c1 c2 ⊢
                refine walk g5 ?_
                exact Roundq.normal (100 - (i + 1)) (by omega) ⟨i + 1, sv', l, next, cs, by omega, rfl, by simp [g0], by simp [g3], by simp [g4], by simp, by simpa [Int.add_assoc] using c1 (hC.mi.more (by omega)), by omega, hU.trans U2 fun z _ e => e⟩
              · have e : openF l next 200 x.id x.a x.b = ⟨l ++ [⟨next, x.id, x.a, 0, x.b, 1⟩], next + 1, next, 0⟩ := by simp only [openF]; rw [if_neg (fun h => h hfit), if_neg hfull]
                rw [e] at c1 c2 ⊢
                have hcy := intsC_get (hC.mi.rest next.toNat (by omega) (by omega))
                refine walk (both g4 (both g5 (both m2 hcy))) ?_
                rw [intsC_set]
                have hmi := hC.mi.snoc (k := x.id) (o := x.a) (f := x.b) hC.g (by omega) (by omega)
                exact Roundq.normal (100 - (i + 1)) (by omega) ⟨i + 1, sv', _, next + 1, _, by omega, rfl, by simp [g0], by simp [g3], by simp [g4], by simp, by simpa [Int.add_assoc] using c2 _ hmi, by omega, (hU.trans U2 fun z _ e => e).set _ ml2 fun _ => by omega⟩
            · have e : openF l next 200 x.id x.a x.b = ⟨l, next, 0, 22⟩ := by simp only [openF]; rw [if_pos hfit]
              rw [e] at c1 c2 ⊢
              refine walk g5 ?_
              exact Roundq.normal (100 - (i + 1)) (by omega) ⟨i + 1, sv', l, next, cs, by omega, rfl, by simp [g0], by simp [g3], by simp [g4], by simp, by simpa [Int.add_assoc] using c1 (hC.mi.more (by omega)), by omega, hU.trans U2 fun z _ e => e⟩
      · refine walk (both g0 (both g3 (both g4 (both g5 (both hlt h100))))) ?_
        refine (dump_ok hC.t hC.g).mono fun w H3 _ hF => ?_
        obtain ⟨da, dx, rfl, _⟩ := hF.own.form
        have hm3 := (hF.keep.get hC.mlt).trans hC.m
        have hcl := hC.mi.len
        refine walk none0 ?_
        refine Wq.loop (fun m e Hx => ∃ i : Nat, i ≤ l.length ∧ m = l.length - i ∧ Hx = H3 ∧ e 4 = .slice (some (H1.next, 0)) 300 300 none ∧ e 11 = .slice da l.length l.length dx ∧ e 12 = .int .i64 (((l.map FileT.refs).take i).sum) ∧ e 13 = .int .i64 i) l.length ?_ ?_
        · exact ⟨0, by omega, by omega, rfl, by simp [g4], by simp, by simp, by simp⟩
        · rintro m e Hx ⟨i, hi, rfl, rfl, g4, g11, g12, g13⟩
          by_cases hlt : i < l.length
          · obtain ⟨y, hy⟩ := get_lt hlt
            have hym := List.mem_of_getElem? hy
            have hyi := hC.g.ids y hym
            have hyr := hC.g.ref y hym
            have hcy := intsC_get (hC.mi.has y hym)
            have hSb := take_bound (l := l.map FileT.refs) (B := 1000000) (fun c hc => by
              rw [List.mem_map] at hc
              obtain ⟨y, hy, rfl⟩ := hc
              have := hC.g.ref y hy; omega) i
            have hS1 := sum_take (l := l.map FileT.refs) (i := i) (v := y.refs) (by rw [List.getElem?_map, hy]; rfl)
            rw [List.length_map] at hSb
            generalize ((l.map FileT.refs).take i).sum = S at *
            obtain ⟨b, o, c, t, w, mk, rfl, hb1, hb2, hb3, hb4, hb5⟩ := file_two hF.own.sl hy
            refine walk (both g4 (both g11 (both g12 (both g13 hlt)))) ?_
            refine Wq.regionD [0, 1, 2, 3, 4, 5, 6, 7, 8, 9, 10, 11, 12, 13, 14, 15, 16, 17, 18, 19, 20, 21] (by kernel_rfl) ?_
            refine walk (both g4 (both g11 (both g12 (both g13 (both hlt (both hb2 (both hb4 (both hb5 (both hm3 hcy))))))))) ?_
            exact Roundq.normal (l.length - (i + 1)) (by omega) ⟨i + 1, by omega, rfl, rfl, by simp [g4], by simp [g11], by simp [hS1], by simp⟩
          · have hend : i = l.length := by omega
            subst hend
            rw [List.take_of_length_le (by simp)] at g12
            refine walk (both g4 (both g11 (both g12 (both g13 hlt)))) ?_
            rw [← hC.mi.sum] at g12
            refine Wq.loop (fun m e Hy => ∃ i : Nat, i ≤ 300 ∧ m = 300 - i ∧ Hy = Hx ∧ e 4 = .slice (some (H1.next, 0)) 300 300 none ∧ e 12 = .int .i64 (cs.sum - (cs.take i).sum) ∧ e 14 = .int .i64 i) 300 ?_ ?_
            · exact ⟨0, by omega, by omega, rfl, by simp [g4], by simp [g12], by simp⟩
            · rintro m e Hy ⟨i, hi, rfl, rfl, g4, g12, g14⟩
              have hb := take_bound (l := cs) hC.mi.pos i
              have hb2 := take_bound (l := cs) hC.mi.pos 300
              rw [List.take_of_length_le (by omega)] at hb2
              rw [hcl] at hb hb2
              by_cases hlt : i < 300
              · obtain ⟨v, hv⟩ : ∃ v, cs[i]? = some v := ⟨cs[i], by simp [hcl, hlt]⟩
                have hcv := intsC_get hv
                have hvp := hC.mi.pos v (List.mem_of_getElem? hv)
                have hs1 := sum_take hv
                generalize (cs.take i).sum = S at *
                generalize cs.sum = T at *
                refine walk (both g4 (both g12 (both g14 (both hlt (both hm3 hcv))))) ?_
                exact Roundq.normal (300 - (i + 1)) (by omega) ⟨i + 1, by omega, rfl, rfl, by simp [g4], by simp [hs1]; omega, by simp⟩
              · have hend : i = 300 := by omega
                subst hend
                rw [List.take_of_length_le (by omega), Int.sub_self] at g12
                refine walk (both g4 (both g12 (both g14 hlt))) ?_
                refine (lives_ok _).mono fun w H6 _ ⟨e1, e2⟩ => ?_
                subst e1; subst e2
                refine walk none0 ?_
                exact rfl
    · refine walk (both g0 (both g3 (both g4 (both g5 hlt)))) ?_
      refine (dump_ok hC.t hC.g).mono fun w H3 _ hF => ?_
      obtain ⟨da, dx, rfl, _⟩ := hF.own.form
      have hm3 := (hF.keep.get hC.mlt).trans hC.m
      have hcl := hC.mi.len
      refine walk none0 ?_
      refine Wq.loop (fun m e Hx => ∃ i : Nat, i ≤ l.length ∧ m = l.length - i ∧ Hx = H3 ∧ e 4 = .slice (some (H1.next, 0)) 300 300 none ∧ e 11 = .slice da l.length l.length dx ∧ e 12 = .int .i64 (((l.map FileT.refs).take i).sum) ∧ e 13 = .int .i64 i) l.length ?_ ?_
      · exact ⟨0, by omega, by omega, rfl, by simp [g4], by simp, by simp, by simp⟩
      · rintro m e Hx ⟨i, hi, rfl, rfl, g4, g11, g12, g13⟩
        by_cases hlt : i < l.length
        · obtain ⟨y, hy⟩ := get_lt hlt
          have hym := List.mem_of_getElem? hy
          have hyi := hC.g.ids y hym
          have hyr := hC.g.ref y hym
          have hcy := intsC_get (hC.mi.has y hym)
          have hSb := take_bound (l := l.map FileT.refs) (B := 1000000) (fun c hc => by
            rw [List.mem_map] at hc
            obtain ⟨y, hy, rfl⟩ := hc
            have := hC.g.ref y hy; omega) i
          have hS1 := sum_take (l := l.map FileT.refs) (i := i) (v := y.refs) (by rw [List.getElem?_map, hy]; rfl)
          rw [List.length_map] at hSb
          generalize ((l.map FileT.refs).take i).sum = S at *
          obtain ⟨b, o, c, t, w, mk, rfl, hb1, hb2, hb3, hb4, hb5⟩ := file_two hF.own.sl hy
          refine walk (both g4 (both g11 (both g12 (both g13 hlt)))) ?_
          refine Wq.regionD [0, 1, 2, 3, 4, 5, 6, 7, 8, 9, 10, 11, 12, 13, 14, 15, 16, 17, 18, 19, 20, 21] (by kernel_rfl) ?_
          refine walk (both g4 (both g11 (both g12 (both g13 (both hlt (both hb2 (both hb4 (both hb5 (both hm3 hcy))))))))) ?_
          exact Roundq.normal (l.length - (i + 1)) (by omega) ⟨i + 1, by omega, rfl, rfl, by simp [g4], by simp [g11], by simp [hS1], by simp⟩
        · have hend : i = l.length := by omega
          subst hend
          rw [List.take_of_length_le (by simp)] at g12
          refine walk (both g4 (both g11 (both g12 (both g13 hlt)))) ?_
          rw [← hC.mi.sum] at g12
          refine Wq.loop (fun m e Hy => ∃ i : Nat, i ≤ 300 ∧ m = 300 - i ∧ Hy = Hx ∧ e 4 = .slice (some (H1.next, 0)) 300 300 none ∧ e 12 = .int .i64 (cs.sum - (cs.take i).sum) ∧ e 14 = .int .i64 i) 300 ?_ ?_
          · exact ⟨0, by omega, by omega, rfl, by simp [g4], by simp [g12], by simp⟩
          · rintro m e Hy ⟨i, hi, rfl, rfl, g4, g12, g14⟩
            have hb := take_bound (l := cs) hC.mi.pos i
            have hb2 := take_bound (l := cs) hC.mi.pos 300
            rw [List.take_of_length_le (by omega)] at hb2
            rw [hcl] at hb hb2
            by_cases hlt : i < 300
            · obtain ⟨v, hv⟩ : ∃ v, cs[i]? = some v := ⟨cs[i], by simp [hcl, hlt]⟩
              have hcv := intsC_get hv
              have hvp := hC.mi.pos v (List.mem_of_getElem? hv)
              have hs1 := sum_take hv
              generalize (cs.take i).sum = S at *
              generalize cs.sum = T at *
              refine walk (both g4 (both g12 (both g14 (both hlt (both hm3 hcv))))) ?_
              exact Roundq.normal (300 - (i + 1)) (by omega) ⟨i + 1, by omega, rfl, rfl, by simp [g4], by simp [hs1]; omega, by simp⟩
            · have hend : i = 300 := by omega
              subst hend
              rw [List.take_of_length_le (by omega), Int.sub_self] at g12
              refine walk (both g4 (both g12 (both g14 hlt))) ?_
              refine (lives_ok _).mono fun w H6 _ ⟨e1, e2⟩ => ?_
              subst e1; subst e2
              refine walk none0 ?_
              exact rfl
end Go.Abs

/- The seat's own facts for its rows. -/
namespace Go.Proofs.Ytcafkmhlpgajoaa
open Go.ChangeShapes Go.WideShapes Go.ChangeAt Go.RowKit Go.Abs
set_option linter.unusedVariables false
set_option maxRecDepth 100000

theorem own : ownKnob Try.prog.godebug = none := by kernel_rfl
theorem laidOut : laidOutB Try.prog = true := by kernel_rfl
theorem mixed : Try.prog.follows .mixedOrders = true := by kernel_rfl
theorem plainN : plainNames Try.prog = true := by kernel_rfl
theorem run9 : ((acall Try.prog noPrims 40 9 [] (Heap.start Try.prog.globals.size)).map fun r => sameAV r.1 (.bool true)) = some true := by kernel_rfl
theorem runs9 : ∃ n H', acall Try.prog noPrims n 9 [] (Heap.start Try.prog.globals.size) = some (.bool true, H') := runs_of run9
theorem primsOk : PrimsOk Try.prog pr12 := by
  refine closedPrims_ok mixed plainN fun p hp => ?_
  simp at hp
  subst hp
  exact ⟨rfl, runs9⟩
theorem primsRl : PrimsRl pr12 := closedPrims_rl _
end Go.Proofs.Ytcafkmhlpgajoaa

/- FilesNews: the row. -/
namespace Go.Proofs.Ytcafkmhlpgajoaa
open Go.ChangeShapes Go.WideShapes Go.ChangeAt Go.RowKit Go.Abs
set_option linter.unusedVariables false
set_option maxRecDepth 100000

theorem filesNewsMain (H : Heap) (xs : List AV) (hG : Try.prog.globals.size ≤ H.next) (hw : Wf H) (h : PicAll Try.prog H 3 [3, 3] xs) : CallsA Try.prog pr12 6 xs H fun v _ => v = .bool true := by
  obtain ⟨a0, r0, rfl, h0, a1, r1, rfl, h1, hend⟩ := h
  obtain rfl : r1 = [] := hend
  refine Cl.callsA primsRl hw ?_
  obtain ⟨z0, rfl, w0⟩ := picV_i64 Try.underlying3 h0
  obtain ⟨z1, rfl, w1⟩ := picV_i64 Try.underlying3 h1
  exact filesNews_main z0 z1 H w0 w1

theorem filesNewsLifted (os : Os) (started : os.Started) (H : Type) (enc : TypeId × Value → H) :
    ReturnsInHanded {} Try.checked os 6 .any (Rows.filesNewsSpec.pre6 enc Try.prog Try.f6 Rows.filesNewsRow.domain false) (Rows.filesNewsSpec.post enc Try.prog Try.f6 false true false false) := by
  refine returnsInHanded_of_change (C := Try.checked) own started (by kernel_rfl) Try.func6
    (ChangeSpec.witness6 (enc := enc) (C := Try.checked) false ⟨#[], #[.int .i64 0, .int .i64 0], []⟩ 8 (by kernel_rfl) (by kernel_rfl) (by kernel_rfl) (by kernel_rfl)) ?_
  intro W base args ds gs before hval hW hcnd _
  have ep : Try.f6.params.toList = [3, 3] := by kernel_rfl
  refine law_post laidOut rfl (fun ds h => ?_) (tb := 4) (by kernel_rfl) Try.underlying4 ?_ hW (fun p hA => ?_)
  · rw [ep] at h
    match ds, h with
    | [a0, a1], _ => rfl
  · rw [ep]
    intro t ht
    simp at ht
    subst ht; exact ⟨by kernel_rfl, of_decide_eq_true (by kernel_rfl)⟩
  · refine law_calls primsOk mixed plainN Try.func6 rfl (n := 3) (base := base) (ts := Try.f6.params.toList) ?_ ?_ ?_ hA
    · rw [ep]
      intro t ht
      simp at ht
      subst ht; kernel_rfl
    · rw [ep]
      exact filesNewsMain
    · intro j t v h1 h2
      exact hval j t v (by simpa using h1) (by simpa using h2)

theorem filesNews : Rows.FilesNewsSaid :=
  OpenClaim.holds_of_wide 6 Try.f6 rfl rfl rfl rfl rfl rfl rfl ⟨rfl, rfl, rfl, rfl, rfl⟩ rfl rfl rfl rfl rfl (by kernel_rfl) Try.func6 (by kernel_rfl)
    (of_decide_eq_true (by kernel_rfl)) (by unfold Func.isWrapper; first | (rw [if_pos (by decide +kernel)]; kernel_rfl) | (rw [if_neg (by decide +kernel)]; exact ⟨rfl, rfl⟩))
    (fun os started H enc _ => filesNewsLifted os started H enc)
-- #print axioms filesNews
end Go.Proofs.Ytcafkmhlpgajoaa
