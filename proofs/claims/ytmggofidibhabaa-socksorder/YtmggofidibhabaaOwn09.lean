/- Texts on this program, joined. -/
import Derived.Test.YtmggofidibhabaaOwn07
import Derived.Test.YtmggofidibhabaaKit08
import Derived.Test.YtmggofidibhabaaKit04

/- Chapter 11: the queue, and what is told of it and done to it, walked. -/
namespace Go.Abs
open Go.Proofs
set_option maxRecDepth 100000
set_option linter.unusedVariables false
set_option linter.unusedSimpArgs false

def total (l : List Part) : Nat := (l.map fun x => x.b.length).sum
theorem total_cons (x : Part) (l : List Part) : total (x :: l) = x.b.length + total l := by simp [total]
def okQ (H : Heap) (p : Nat) (slv : AV) (b : Nat) : Prop := b < H.next ∧ b ≠ p ∧ slBlock slv ≠ some b
structure QueueR (H : Heap) (p : Nat) (slv : AV) (ok : Nat → Prop) (ql : List Part) (most : Int) : Prop where
  q : H.get p = some (.cells [slv, .int .i64 most, .int .i64 (total ql : Nat)] 68 true false)
  own : ∃ c, OwnG H 71 2 slv ql.length c ∧ Rows partS H ok c ql
  okd : ∀ b, ok b → okQ H p slv b
  apart : slBlock slv ≠ some p
  ne : ∀ x ∈ ql, x.b ≠ []
  many : ql.length ≤ 16
  fits : (total ql : Int) ≤ most ∧ 1 ≤ most ∧ most ≤ 4096
  lt : ∀ z, slBlock slv = some z → z < H.next
  few : ∀ x ∈ ql, x.l.length ≤ 4

/-- What turns elsewhere leaves it. -/
theorem QueueR.keep {H H' : Heap} {p : Nat} {slv : AV} {ok fp : Nat → Prop} {ql : List Part} {most : Int} (h : QueueR H p slv ok ql most) (u : Upd fp H H') (hp : ¬ fp p) (hs : ¬ ∃ b, slBlock slv = some b ∧ fp b) (hok : ∀ b, ok b → ¬ fp b) (hlt : p < H.next) : QueueR H' p slv ok ql most := by
  obtain ⟨c, h1, h2⟩ := h.own
  exact ⟨(u.keep p hlt hp).trans h.q, ⟨c, h1.upd u fun b hb hf => hs ⟨b, hb, hf⟩, h2.upd u hok⟩, fun b hb => ⟨by have := (h.okd b hb).1; have := u.next; omega, (h.okd b hb).2⟩, h.apart, h.ne, h.many, h.fits, fun z hz => by have := h.lt z hz; have := u.next; omega, h.few⟩
theorem lt_of_get? {α : Type} {l : List α} {i : Nat} {x : α} (h : l[i]? = some x) : i < l.length := by
  rcases Nat.lt_or_ge i l.length with h' | h'
  · exact h'
  · rw [List.getElem?_eq_none h'] at h; cases h
theorem part_at {H : Heap} {ok : Nat → Prop} {c d : List AV} {l : List Part} {i o : Nat} {x : Part} (h : Rows partS H ok c l) (hx : l[i]? = some x) (hd : (d.drop o).take (l.length * 2) = c) :
    ∃ vb vl, d[o + i * 2]? = some vb ∧ d[o + i * 2 + 1]? = some vl ∧ (c.drop (i * 2)).take 2 = [vb, vl] ∧ (d.drop (o + i * 2)).take 2 = [vb, vl] ∧ bytesS.R H ok [vb] x.b ∧ List0 passS H ok vl x.l := by
  have hi := lt_of_get? hx
  obtain ⟨vb, vl, e1, e2, e3⟩ := part_open (h.2 i x hx)
  rw [partS_s] at e1
  have e4 := sub_take (i := i * 2) (k := 2) hd (by omega)
  rw [e1] at e4
  refine ⟨vb, vl, ?_, ?_, e1, e4, e2, e3⟩
  · have := sub_get (i := 0) e4 (by omega); simpa using this
  · have := sub_get (i := 1) e4 (by omega); simpa using this

theorem len_some {H : Heap} {p : Nat} {slv : AV} {ok : Nat → Prop} {ql : List Part} {most : Int} (h : QueueR H p slv ok ql most) : Cl Try.prog pr11 17 [.ptr (some (p, 0))] H fun v H' => v = .int .i64 (total ql : Nat) ∧ H' = H := by
  have hq := h.q
  refine Cl.enter Try.func17 rfl rfl Try.ntmps17 (by simp) ?_
  refine walk hq ?_
  exact ⟨rfl, rfl⟩
theorem room_some {H : Heap} {p : Nat} {slv : AV} {ok : Nat → Prop} {ql : List Part} {most : Int} (h : QueueR H p slv ok ql most) : Cl Try.prog pr11 23 [.ptr (some (p, 0))] H fun v H' => v = .int .i64 (most - (total ql : Nat)) ∧ H' = H := by
  have hq := h.q
  have hf := h.fits
  refine Cl.enter Try.func23 rfl rfl Try.ntmps23 (by simp) ?_
  refine walk hq ?_
  refine Wq.regionD [0, 1, 2, 3, 4, 5, 6, 7, 8, 9] (by kernel_rfl) ?_
  refine walk hq ?_
  exact ⟨rfl, rfl⟩
theorem new_yes (most : Int) (h : 1 ≤ most ∧ most ≤ 4096) (H : Heap) : Cl Try.prog pr11 11 [.int .i64 most] H fun v H' => v = .ptr (some (H.next, 0)) ∧ Keep H H' ∧ QueueR H' H.next (.slice none 0 0 none) (fun _ => False) [] most := by
  have h1 : ¬ most < 1 := by omega
  have h2 : ¬ 4096 < most := by omega
  refine Cl.enter Try.func11 rfl rfl Try.ntmps11 (by simp) ?_
  refine walk (both h1 h2) ?_
  exact ⟨rfl, Upd.rfl.push _, by simp [total], ⟨[], OwnG.nil, Rows.nil⟩, fun _ h => h.elim, by simp [slBlock], by simp, by simp, by simp [total]; omega, by simp [slBlock], by simp⟩
/-- The queue's parts, read. -/
theorem QueueR.list {H : Heap} {p : Nat} {slv : AV} {ok : Nat → Prop} {ql : List Part} {most : Int} (h : QueueR H p slv ok ql most) : List0 partS H (fun b => ok b ∨ slBlock slv = some b) slv ql := by
  obtain ⟨c, h1, h2⟩ := h.own
  exact List0.mk h1.sl (fun b hb _ => .inr hb) (by have := h.many; unfold maxLen; omega) (h2.mono fun _ h => .inl h)
end Go.Abs

/- Chapter 11: cut, walked. -/
namespace Go.Abs
open Go.Proofs
set_option maxRecDepth 100000
set_option linter.unusedVariables false
set_option linter.unusedSimpArgs false

def cutQ : List Part → Nat → List Part
  | [], _ => []
  | x :: r, k => if x.b.length ≤ k then r else ⟨x.b.drop k, x.l⟩ :: r

theorem okQ.mono {H H' : Heap} {p : Nat} {s s' : AV} (hn : H.next ≤ H'.next) (hs : slBlock s' = slBlock s ∨ ∃ b, slBlock s' = some b ∧ H.next ≤ b) (b : Nat) (h : okQ H p s b) : okQ H' p s' b := by
  obtain ⟨h1, h2, h3⟩ := h
  refine ⟨by omega, h2, ?_⟩
  rcases hs with e | ⟨b', e, h4⟩
  · rw [e]; exact h3
  · rw [e]; intro e; injection e with e; omega
theorem okQ.not {H : Heap} {p : Nat} {s : AV} (b : Nat) (h : okQ H p s b) : ¬ (b = p ∨ slBlock s = some b) := fun h' => h'.elim h.2.1 h.2.2

theorem cut_ok {H : Heap} {p : Nat} {slv : AV} {ok : Nat → Prop} {x : Part} {r : List Part} {most : Int} (h : QueueR H p slv ok (x :: r) most) (n : Int) (hn : 1 ≤ n) (hn2 : n ≤ 9223372036854775807) :
    Cl Try.prog pr11 26 [.ptr (some (p, 0)), .int .i64 n] H fun w H' => ∃ slv', Upd (fun b => b = p ∨ slBlock slv = some b) H H' ∧ slBlock slv' = slBlock slv ∧ QueueR H' p slv' ok (cutQ (x :: r) n.toNat) most ∧ bytesS.R H' ok [w] (x.b.take n.toNat) := by
  have hnot : ∀ z, ok z → ¬ (z = p ∨ slBlock slv = some z) := fun z hz => okQ.not z (h.okd z hz)
  have hq := h.q
  have hfit := h.fits
  have hap := h.apart
  have hne := h.ne x (by simp)
  have hlen0 : 0 < x.b.length := List.length_pos_iff.2 hne
  have htot := total_cons x r
  obtain ⟨c, ho, hr⟩ := h.own
  obtain ⟨a, cap, ex, rfl, hcap, hex⟩ := ho.form
  obtain ⟨b, o, d, rfl, _, _, hb1, hb2, hb5, hb3, hb4⟩ := ho.at (by simp)
  obtain ⟨vb, vl, x0, x1, e0, e1, ⟨vb', e, hS, hok, hmax⟩, e3⟩ := part_at (i := 0) hr rfl hb4
  injection e with e _; subst e
  obtain ⟨va, vc, vx, rfl, hvc, hvx⟩ := hS.form
  obtain ⟨b1, o1, d1, t1, w1, m1, rfl, hc1, hc2, hc3, hc4⟩ := hS.at hlen0
  simp only [List.length_cons] at hb3 hcap hq hb5
  simp only [Nat.zero_mul, Nat.add_zero] at x0 x1 e0 e1
  have hpb : b ≠ p := fun e => hap (by rw [e]; rfl)
  refine Cl.wf fun hw => ?_
  have hpl := hw.lt hq
  refine Cl.enter Try.func26 rfl rfl Try.ntmps26 (by simp) ?_
  by_cases hk : (x.b.length : Int) ≤ n
  · have hm : min n (x.b.length : Int) = x.b.length := by omega
    refine walk (both hq (both hb2 (both x0 (both hpb hk)))) ?_
    simp only [hm, Int.toNat_natCast]
    generalize hv : AV.slice (some (b1, o1 + x.b.length)) _ _ vx = nv
    generalize hHb : Heap.set (Heap.set _ _ _) _ _ = Hb
    have hu : Upd (fun z => z = p ∨ slBlock (AV.slice (some (b, o)) (x :: r).length cap ex) = some z) H Hb := by
      subst hHb
      exact ((Upd.rfl.set _ hb1 fun _ => .inr rfl).set _ (by simpa using hpl) fun _ => .inl rfl).set _ (by simpa using hpl) fun _ => .inl rfl
    have gp : Hb.get p = some (.cells [AV.slice (some (b, o + 2)) r.length (cap - 1) ex, AV.int IntKind.i64 most, AV.int IntKind.i64 (↑(total (x :: r)) - ↑x.b.length)] 68 true false) := by subst hHb; simp
    have gb : Hb.get b = some (.cells (d.set o nv) 71 true false) := by subst hHb; simp [hpb]
    have nb : Hb.next = H.next := by subst hHb; simp
    have hok2 := okQ.mono (H := H) (H' := Hb) (p := p) (s := AV.slice (some (b, o)) (x :: r).length cap ex) (s' := AV.slice (some (b, o + 2)) r.length (cap - 1) ex) (by omega) (.inl rfl)
    have hw1 : (Hb.get b).isSome := by rw [gb]; rfl
    have hcut : cutQ (x :: r) n.toNat = r := by simp only [cutQ]; rw [if_pos (by omega)]
    have hml := h.many
    simp only [List.length_cons] at hml
    rw [hcut]
    have hset : ((d.set o nv).drop o).take ((r.length + 1) * 2) = c.set 0 nv := by have := set_sub (i := 0) (v := nv) hb4 (by simp); simpa using this
    have hR := OwnG.refill (H' := Hb) (elem := 71) (s := 2) (n := r.length + 1) (cap := cap) (b := b) (o := o) (ex := ex) hcap hex (by omega) gb (by rw [List.length_set]; omega)
    rw [hset] at hR
    have hR2 := hR.rest (k := 1) (by omega) (by omega)
    rw [List.drop_set_of_lt (by omega)] at hR2
    have hrr := hr.drop 1
    simp only [Nat.add_sub_cancel, Nat.one_mul, List.drop_one, List.tail_cons, partS_s] at hR2 hrr
    refine ⟨AV.slice (some (b, o + 2)) r.length (cap - 1) ex, hu, rfl, ⟨?_, ⟨_, hR2, hrr.upd hu hnot⟩, fun z hz => hok2 z (h.okd z hz), hap, fun y hy => h.ne y (by simp [hy]), by omega, by omega, fun z hz => by have := h.lt z (by rw [← hz]; rfl); omega, fun y hy => h.few y (by simp [hy])⟩, ?_⟩
    · rw [gp]; simp [htot]; omega
    · have ht : x.b.take n.toNat = x.b := List.take_of_length_le (by omega)
      rw [ht]
      refine ⟨_, rfl, ?_, fun z hz h0 => hok z (by rw [← hz]; rfl) hlen0, hmax⟩
      have := hS.sub (k := 0) (m := x.b.length) (cap' := x.b.length) (ex' := none) (by omega) (Nat.le_refl _) (.inl rfl)
      simp only [Nat.zero_mul, Nat.add_zero, List.drop_zero, Nat.mul_one] at this
      rw [List.take_of_length_le (by simp)] at this
      exact this.upd hu fun z hz h0 => hnot z (hok z (by rw [← hz]; rfl) hlen0)
  · have hm : min n (x.b.length : Int) = n := by omega
    refine walk (both hq (both hb2 (both x0 (both hpb hk)))) ?_
    simp only [hm]
    have hn3 : n.toNat < x.b.length := by omega
    rw [show ((x.b.length : Int) - n).toNat = x.b.length - n.toNat by omega, show ((vc : Int) - n).toNat = vc - n.toNat by omega]
    generalize hv : AV.slice (some (b1, o1 + n.toNat)) (x.b.length - n.toNat) (vc - n.toNat) vx = nv
    generalize hHb : Heap.set (Heap.set _ _ _) _ _ = Hb
    have hu : Upd (fun z => z = p ∨ slBlock (AV.slice (some (b, o)) (x :: r).length cap ex) = some z) H Hb := by
      subst hHb
      exact (Upd.rfl.set _ hb1 fun _ => .inr rfl).set _ (by simpa using hpl) fun _ => .inl rfl
    have gp : Hb.get p = some (.cells [AV.slice (some (b, o)) (r.length + 1) cap ex, AV.int IntKind.i64 most, AV.int IntKind.i64 (↑(total (x :: r)) - n)] 68 true false) := by subst hHb; simp
    have gb : Hb.get b = some (.cells (d.set o nv) 71 true false) := by subst hHb; simp [hpb]
    have nb : Hb.next = H.next := by subst hHb; simp
    have hok2 := okQ.mono (H := H) (H' := Hb) (p := p) (s := AV.slice (some (b, o)) (x :: r).length cap ex) (s' := AV.slice (some (b, o)) (r.length + 1) cap ex) (by omega) (.inl rfl)
    have hcut : cutQ (x :: r) n.toNat = ⟨x.b.drop n.toNat, x.l⟩ :: r := by simp only [cutQ]; rw [if_neg (by omega)]
    have hml := h.many
    simp only [List.length_cons] at hml
    rw [hcut]
    have hset : ((d.set o nv).drop o).take ((r.length + 1) * 2) = c.set 0 nv := by have := set_sub (i := 0) (v := nv) hb4 (by simp); simpa using this
    have hR := OwnG.refill (H' := Hb) (elem := 71) (s := 2) (n := r.length + 1) (cap := cap) (b := b) (o := o) (ex := ex) hcap hex (by omega) gb (by rw [List.length_set]; omega)
    rw [hset] at hR
    have hSb : bytesS.R Hb ok [nv] (x.b.drop n.toNat) := by
      have := hS.sub (k := n.toNat) (m := x.b.length - n.toNat) (cap' := vc - n.toNat) (ex' := vx) (by omega) (by omega) hvx
      simp only [Nat.mul_one] at this
      rw [hv, bytes_drop, List.take_of_length_le (by simp)] at this
      refine ⟨nv, rfl, ?_, fun z hz h0 => hok z (by rw [← hz, ← hv]; rfl) hlen0, by rw [List.length_drop]; omega⟩
      rw [List.length_drop]
      exact this.upd hu fun z hz h0 => hnot z (hok z (by rw [← hz, ← hv]; rfl) hlen0)
    have hP : partS.R Hb ok (((c.drop (0 * partS.s)).take partS.s).set 0 nv) ⟨x.b.drop n.toNat, x.l⟩ := by
      rw [partS_s, Nat.zero_mul, List.drop_zero]
      rw [List.drop_zero] at e0
      rw [e0]
      exact part_mk hSb ((sliceS passS).upd e3 hu hnot)
    have hrr := (hr.upd hu hnot).put (i := 0) (k := 0) (by simp) (by decide) hP
    simp only [Nat.zero_mul, Nat.add_zero, List.set_cons_zero] at hrr
    refine ⟨AV.slice (some (b, o)) (r.length + 1) cap ex, hu, rfl, ⟨?_, ⟨_, hR, hrr⟩, fun z hz => hok2 z (h.okd z hz), hap, ?_, by simp; omega, by rw [total_cons]; simp; omega, fun z hz => by have := h.lt z (by rw [← hz]; rfl); omega, fun y hy => (List.mem_cons.1 hy).elim (fun e => by rw [e]; exact h.few x (by simp)) fun hy => h.few y (by simp [hy])⟩, ?_⟩
    · rw [gp]; simp [htot, total_cons]; omega
    · intro y hy
      rcases List.mem_cons.1 hy with rfl | hy
      · exact List.length_pos_iff.1 (by simp; omega)
      · exact h.ne y (by simp [hy])
    · refine ⟨_, rfl, ?_, fun z hz h0 => hok z (by rw [← hz]; rfl) hlen0, by rw [List.length_take]; omega⟩
      have := hS.sub (k := 0) (m := n.toNat) (cap' := n.toNat) (ex' := none) (by omega) (Nat.le_refl _) (.inl rfl)
      simp only [Nat.zero_mul, Nat.add_zero, List.drop_zero, Nat.mul_one, bytes_take] at this
      rw [List.length_take, Nat.min_eq_left (by omega)]
      exact this.upd hu fun z hz h0 => hnot z (hok z (by rw [← hz]; rfl) hlen0)
end Go.Abs

/- Chapter 11: Take, walked. -/
namespace Go.Abs
open Go.Proofs
set_option maxRecDepth 100000
set_option linter.unusedVariables false
set_option linter.unusedSimpArgs false

/-- What is taken, and what is left. -/
def takeQ : Nat → List Part → List UInt8 × List Part
  | _, [] => ([], [])
  | n, x :: r => if n = 0 ∨ x.l ≠ [] then ([], x :: r) else
    if x.b.length ≤ n then (x.b ++ (takeQ (n - x.b.length) r).1, (takeQ (n - x.b.length) r).2) else (x.b.take n, ⟨x.b.drop n, x.l⟩ :: r)
theorem takeQ_zero (l : List Part) : takeQ 0 l = ([], l) := by cases l <;> simp [takeQ]
theorem takeQ_stop {n : Nat} {x : Part} {r : List Part} (h : x.l ≠ []) : takeQ n (x :: r) = ([], x :: r) := by simp [takeQ, h]
theorem takeQ_cut {n : Nat} {x : Part} {r : List Part} (hn : n ≠ 0) (h : x.l = []) : takeQ n (x :: r) = (x.b.take n ++ (takeQ (n - x.b.length) (cutQ (x :: r) n)).1, (takeQ (n - x.b.length) (cutQ (x :: r) n)).2) := by
  by_cases hl : x.b.length ≤ n
  · simp [takeQ, cutQ, hn, h, hl, List.take_of_length_le hl]
  · have : n - x.b.length = 0 := by omega
    simp [takeQ, cutQ, hn, h, hl, this, takeQ_zero]

theorem total_cutQ (x : Part) (r : List Part) (n : Nat) : (x.b.take n).length + total (cutQ (x :: r) n) = total (x :: r) := by
  simp only [cutQ]
  by_cases h : x.b.length ≤ n
  · rw [if_pos h, total_cons, List.take_of_length_le h]
  · rw [if_neg h, total_cons, total_cons, List.length_take, List.length_drop]; omega

theorem take_ok {H : Heap} {p : Nat} {slv : AV} {ok : Nat → Prop} {x : Part} {r : List Part} {most : Int} (h : QueueR H p slv ok (x :: r) most) (n m : Int) (hn : 1 ≤ n) (hn2 : n ≤ 9223372036854775807) (hm1 : -9223372036854775808 ≤ m) (hm2 : m ≤ 9223372036854775807) :
    Cl Try.prog pr11 19 [.ptr (some (p, 0)), .int .i64 n, .int .i64 m] H fun w H' => ∃ slv' wb wp wd, w = .tuple [wb, wp, wd] ∧ Upd (fun b => b = p ∨ slBlock slv = some b) H H' ∧ slBlock slv' = slBlock slv ∧ QueueR H' p slv' ok (takeQ n.toNat (⟨x.b, []⟩ :: r)).2 most ∧
      bytesS.R H' (fun b => H.next ≤ b ∧ b < H'.next) [wb] (takeQ n.toNat (⟨x.b, []⟩ :: r)).1 ∧ List0 passS H' ok wp (x.l.take (max (min m x.l.length) 0).toNat) ∧ List0 passS H' ok wd (x.l.drop (max (min m x.l.length) 0).toNat) := by
  have hnot : ∀ z, ok z → ¬ (z = p ∨ slBlock slv = some z) := fun z hz => okQ.not z (h.okd z hz)
  have hq := h.q
  have hfit := h.fits
  have hap := h.apart
  obtain ⟨c, ho, hr⟩ := h.own
  obtain ⟨a, cap, ex, rfl, hcap, hex⟩ := ho.form
  obtain ⟨b, o, d, rfl, _, _, hb1, hb2, hb5, hb3, hb4⟩ := ho.at (by simp)
  obtain ⟨vb, vl, x0, x1, e0, e1, hSb, hSl⟩ := part_at (i := 0) hr rfl hb4
  obtain ⟨lc, hl1, hl2, hl3, hl4⟩ := hSl.open
  obtain ⟨la, lcap, lx, rfl, hlc, hlx⟩ := hl1.form
  simp only [List.length_cons] at hb3 hcap hq hb5
  simp only [Nat.zero_mul, Nat.add_zero] at x0 x1 e0 e1
  have hpb : b ≠ p := fun e => hap (by rw [e]; rfl)
  have hml : x.l.length ≤ 9223372036854775807 := by unfold maxLen at hl3; omega
  refine Cl.wf fun hw => ?_
  have hpl := hw.lt hq
  have c1 : ¬ n < 1 := by omega
  refine Cl.enter Try.func19 rfl rfl Try.ntmps19 (by simp) ?_
  refine walk (both hq (both hb2 (both x0 (both x1 (both hpb c1))))) ?_
  have hps : ∀ (sv : AV), slBlock sv = some b → sv = sv := fun _ _ => rfl
  have gp : (H.set b (AObj.cells (d.set (o + 1) (AV.slice none 0 0 none)) 71 true false)).get p = some (.cells [AV.slice (some (b, o)) (r.length + 1) cap ex, .int .i64 most, .int .i64 (total (x :: r) : Nat)] 68 true false) := by simp [Ne.symm hpb, hq]
  have gb : (H.set b (AObj.cells (d.set (o + 1) (AV.slice none 0 0 none)) 71 true false)).get b = some (AObj.cells (d.set (o + 1) (AV.slice none 0 0 none)) 71 true false) := by simp
  have nb : (H.set b (AObj.cells (d.set (o + 1) (AV.slice none 0 0 none)) 71 true false)).next = H.next := by simp
  have hu : Upd (fun z => z = p ∨ slBlock (AV.slice (some (b, o)) (x :: r).length cap ex) = some z) H (H.set b (AObj.cells (d.set (o + 1) (AV.slice none 0 0 none)) 71 true false)) := Upd.rfl.set _ hb1 fun _ => .inr rfl
  generalize hHb : H.set b (AObj.cells (d.set (o + 1) (AV.slice none 0 0 none)) 71 true false) = Hb at *
  have hok2 := okQ.mono (H := H) (H' := Hb) (p := p) (s := AV.slice (some (b, o)) (x :: r).length cap ex) (s' := AV.slice (some (b, o)) (r.length + 1) cap ex) (by omega) (.inl rfl)
  have hQ0 : QueueR Hb p (AV.slice (some (b, o)) (r.length + 1) cap ex) ok (⟨x.b, []⟩ :: r) most := by
    have hset : ((d.set (o + 1) (AV.slice none 0 0 none)).drop o).take ((r.length + 1) * 2) = c.set 1 (AV.slice none 0 0 none) := by have := set_sub (i := 1) (v := AV.slice none 0 0 none) hb4 (by simp; omega); simpa using this
    have hR := OwnG.refill (H' := Hb) (elem := 71) (s := 2) (n := r.length + 1) (cap := cap) (b := b) (o := o) (ex := ex) hcap hex (by omega) gb (by rw [List.length_set]; omega)
    rw [hset] at hR
    have hP : partS.R Hb ok (((c.drop (0 * partS.s)).take partS.s).set 1 (AV.slice none 0 0 none)) ⟨x.b, []⟩ := by
      rw [partS_s, Nat.zero_mul, List.drop_zero]
      rw [List.drop_zero] at e0
      rw [e0]
      exact part_mk (bytesS.upd hSb hu hnot) List0.nil
    have hrr := (hr.upd hu hnot).put (i := 0) (k := 1) (by simp) (by decide) hP
    simp only [Nat.zero_mul, Nat.zero_add, List.set_cons_zero] at hrr
    refine ⟨?_, ⟨_, hR, hrr⟩, fun z hz => hok2 z (h.okd z hz), hap, ?_, by simpa using h.many, by rw [total_cons] at hfit ⊢; exact hfit, fun z hz => by have := h.lt z (by rw [← hz]; rfl); omega, fun y hy => (List.mem_cons.1 hy).elim (fun e => by rw [e]; simp) fun hy => h.few y (by simp [hy])⟩
    · rw [gp, total_cons, total_cons]
    · intro y hy
      rcases List.mem_cons.1 hy with rfl | hy
      · exact h.ne x (by simp)
      · exact h.ne y (by simp [hy])
  refine walk none0 ?_
  have hK1 : 0 ≤ max (min m (x.l.length : Int)) 0 := by omega
  have hK2 : max (min m (x.l.length : Int)) 0 ≤ x.l.length := by omega
  generalize max (min m (x.l.length : Int)) 0 = K at *
  refine Wq.loop (fun k e H' => ∃ sv ql' vo ob, e 0 = .ptr (some (p, 0)) ∧ e 1 = .int .i64 n ∧ e 2 = .int .i64 K ∧ e 9 = .slice la x.l.length lcap lx ∧ e 10 = vo ∧
    OwnSl H' 5 1 vo ob.length (cellsOfBytes ob) ∧ (∀ z, slBlock vo = some z → H.next ≤ z) ∧ QueueR H' p sv ok ql' most ∧ slBlock sv = some b ∧ Upd (fun z => z = p ∨ some b = some z) H H' ∧ (ob.length : Int) ≤ n ∧ ob.length + total ql' ≤ 4096 ∧ Wf H' ∧ k = n.toNat - ob.length ∧
    takeQ n.toNat (⟨x.b, []⟩ :: r) = (ob ++ (takeQ (n.toNat - ob.length) ql').1, (takeQ (n.toNat - ob.length) ql').2)) n.toNat ?_ ?_
  · exact ⟨_, _, .slice none 0 0 none, [], by simp, by simp, by simp, by simp, by simp, OwnSl.nil, by simp [slBlock], hQ0, rfl, hu, by simp; omega, by rw [total_cons] at hfit; rw [total_cons]; simp; omega, by rw [← hHb]; exact set_wf hb1 _ hw, by simp, by simp⟩
  · rintro k e H' ⟨sv, ql', vo, ob, g0, g1, g2, g9, g10, hO, hnew, hQ, hsb, hU, hol, hsum, hw', rfl, htk⟩
    have hq' := hQ.q
    have hf' := hQ.fits
    obtain ⟨oa, ox, rfl, _⟩ := hO.form
    obtain ⟨c', ho', hr'⟩ := hQ.own
    obtain ⟨a', cap', ex', rfl, hcap', hex'⟩ := ho'.form
    have hml := hQ.many
    have hdone : takeQ (n.toNat - ob.length) ql' = ([], ql') → ∀ wp wd, List0 passS H ok wp (x.l.take K.toNat) → List0 passS H ok wd (x.l.drop K.toNat) →
        ∃ slv' wb wp' wd', AV.tuple [AV.slice oa ob.length ob.length ox, wp, wd] = AV.tuple [wb, wp', wd'] ∧ Upd (fun z => z = p ∨ some b = some z) H H' ∧ slBlock slv' = some b ∧ QueueR H' p slv' ok (takeQ n.toNat (⟨x.b, []⟩ :: r)).2 most ∧ bytesS.R H' (fun b => H.next ≤ b ∧ b < H'.next) [wb] (takeQ n.toNat (⟨x.b, []⟩ :: r)).1 ∧ List0 passS H' ok wp' (x.l.take K.toNat) ∧ List0 passS H' ok wd' (x.l.drop K.toNat) := by
      intro hz wp wd h1 h2
      rw [htk, hz]
      exact ⟨AV.slice a' ql'.length cap' ex', _, _, _, rfl, hU, hsb, hQ, ⟨_, rfl, by simpa using hO.sl, fun z hz h0 => ⟨hnew z hz, hO.lt z hz⟩, by simp; have := hol; unfold maxLen; omega⟩, (sliceS passS).upd h1 hU hnot, (sliceS passS).upd h2 hU hnot⟩
    by_cases hfull : (ob.length : Int) < n
    · cases ql' with
      | nil =>
        refine walk (both g0 (both g1 (both g10 (both hq' hfull)))) ?_
        cases la with
        | none =>
          have hx0 : x.l = [] := by
            rcases Nat.eq_zero_or_pos x.l.length with h0 | h0
            · exact List.eq_nil_of_length_eq_zero h0
            · obtain ⟨_, _, _, _, _, _, e, _⟩ := hl1.at h0; cases e
          obtain rfl : K = 0 := by rw [hx0] at hK2; simp at hK2; omega
          rw [hx0] at hdone ⊢
          simp only [hx0, List.length_nil] at g9
          refine Wq.regionD [0, 1, 2, 3, 4, 5, 6, 7, 8, 9, 10] (by kernel_rfl) ?_
          refine walk (both g2 (both g9 g10)) ?_
          exact hdone (by simp [takeQ]) _ _ (by simpa using List0.nil) (by simpa using List0.nil)
        | some q =>
          obtain ⟨b1, o1⟩ := q
          have hcut := hSl.cut (k := K.toNat) (by omega)
          have hlx5 : lx = none ∨ lx = some 5 := hlx
          refine Wq.regionD [0, 1, 2, 3, 4, 5, 6, 7, 8, 9, 10] (by kernel_rfl) ?_
          refine walk (both g2 (both g9 (both g10 hlx5))) ?_
          refine hdone (by simp [takeQ]) _ _ ?_ ?_
          · simpa using hcut.1
          · have e1 : ((x.l.length : Int) - K).toNat = x.l.length - K.toNat := by omega
            have e2 : ((lcap : Int) - K).toNat = lcap - K.toNat := by omega
            rw [e1, e2]
            exact hcut.2
      | cons y r' =>
        obtain ⟨b2, o2, d2, rfl, _, _, k1, k2, _, k3, k4⟩ := ho'.at (by simp)
        obtain ⟨yb, yl, y0, y1, _, _, hyb, hyl⟩ := part_at (i := 0) hr' rfl k4
        obtain ⟨ya, yc, yx, rfl, _, _, hy3⟩ := hyl.form
        simp only [List.length_cons] at k3 hcap' hq'
        simp only [Nat.zero_mul, Nat.add_zero] at y0 y1
        by_cases hyl0 : y.l = []
        · have hyn : y.l.length = 0 := by rw [hyl0]; rfl
          refine walk (both g0 (both g1 (both g10 (both hq' (both hfull (both k2 (both y1 hyn))))))) ?_
          have hN : (n - (ob.length : Int)).toNat = n.toNat - ob.length := by omega
          refine Cl.wfK ((cut_ok hQ (n - ob.length) (by omega) (by omega)).mono fun w H1 hn1 ⟨sv', hU1, hs1, hQ1, hB1⟩ hw1 => ?_)
          rw [hN] at hQ1 hB1
          obtain ⟨w', e, hBs, hBo, hBm⟩ := hB1
          injection e with e _; subst e
          have hfpne : ∀ z, slBlock (AV.slice oa ob.length ob.length ox) = some z → ¬ (z = p ∨ slBlock (AV.slice (some (b2, o2)) (y :: r').length cap' ex') = some z) := by
            intro z hz h'
            have := hnew z hz
            rcases h' with h' | h'
            · omega
            · rw [hsb] at h'; injection h' with h'; omega
          have hO1 := hO.upd hU1 hfpne
          have hyne : 0 < y.b.length := List.length_pos_iff.2 (hQ.ne y (by simp))
          have htc := total_cutQ y r' (n.toNat - ob.length)
          refine Oq.append (own := hO1) (new := cellsOfBytes (y.b.take (n.toNat - ob.length))) (m := (y.b.take (n.toNat - ob.length)).length) (by simp (disch := omega) [g10, -getElem?_pos, wrapI64, tdivN, tmodN, ipos, ineg, dpos, dneg, slc_l, slc_h, slc_lh, slc_hm, slc_lhm, slc_0, slcR_some, slcR_none, cutS_ok, cutA_ok, byteAt_ok]; first | done | (repeat' (first | rfl | apply And.intro))) ⟨_, rfl, by simp; first | done | (repeat' (first | rfl | apply And.intro))⟩ rfl (by kernel_rfl) (by kernel_rfl) (hBs.src') (by simp) (cellsOfBytes_one _) (by omega) (by omega) fun v' H3 o3 b3 s3 => ?_
          have kb : Upd (fun z => H.next ≤ z) H1 H3 := Upd.rfl.butOne b3 (fun z hz hl => hnew z hz)
          have hne3 : ∀ z, slBlock v' = some z → H.next ≤ z := by
            intro z hz
            rcases s3 with s3 | s3
            · exact hnew z (by rw [← s3]; exact hz)
            · rw [s3] at hz; injection hz with hz; have := hU.next; have := hU1.next; omega
          have hQ3 : QueueR H3 p sv' ok (cutQ (y :: r') (n.toNat - ob.length)) most := hQ1.keep kb (by omega) (fun ⟨z, e, hz⟩ => by rw [hs1, hsb] at e; injection e with e; omega) (fun z hz => by have := (h.okd z hz).1; omega) (by have := hU.next; have := hU1.next; omega)
          have hU3 : Upd (fun z => z = p ∨ some b = some z) H H3 := (hU.trans hU1 fun z _ hz => by rw [hsb] at hz; exact hz).trans kb fun z hz hz2 => by omega
          rw [bytes_app, ← List.length_append] at o3
          refine walk (both g0 (both g1 g10)) ?_
          refine Roundq.normal _ ?_ ⟨sv', _, v', ob ++ y.b.take (n.toNat - ob.length), by simp [g0], by simp [g1], by simp [g2], by simp [g9], by simp, o3, hne3, hQ3, hs1.trans hsb, hU3, ?_, ?_, b3.2.1 hw1, rfl, ?_⟩
          · rw [List.length_append, List.length_take]; omega
          · rw [List.length_append, List.length_take]; push_cast; omega
          · rw [List.length_append]; omega
          · have e5 : n.toNat - (ob ++ y.b.take (n.toNat - ob.length)).length = n.toNat - ob.length - y.b.length := by rw [List.length_append, List.length_take]; omega
            rw [e5, htk, takeQ_cut (by omega) hyl0, List.append_assoc]
        · have hyn : 0 < y.l.length := List.length_pos_iff.2 hyl0
          refine walk (both g0 (both g1 (both g10 (both hq' (both hfull (both k2 (both y1 hyn))))))) ?_
          cases la with
          | none =>
            have hx0 : x.l = [] := by
              rcases Nat.eq_zero_or_pos x.l.length with h0 | h0
              · exact List.eq_nil_of_length_eq_zero h0
              · obtain ⟨_, _, _, _, _, _, e, _⟩ := hl1.at h0; cases e
            obtain rfl : K = 0 := by rw [hx0] at hK2; simp at hK2; omega
            rw [hx0] at hdone ⊢
            simp only [hx0, List.length_nil] at g9
            refine Wq.regionD [0, 1, 2, 3, 4, 5, 6, 7, 8, 9, 10] (by kernel_rfl) ?_
            refine walk (both g2 (both g9 g10)) ?_
            exact hdone (takeQ_stop hyl0) _ _ (by simpa using List0.nil) (by simpa using List0.nil)
          | some q =>
            obtain ⟨b1, o1⟩ := q
            have hcut := hSl.cut (k := K.toNat) (by omega)
            have hlx5 : lx = none ∨ lx = some 5 := hlx
            refine Wq.regionD [0, 1, 2, 3, 4, 5, 6, 7, 8, 9, 10] (by kernel_rfl) ?_
            refine walk (both g2 (both g9 (both g10 hlx5))) ?_
            refine hdone (takeQ_stop hyl0) _ _ ?_ ?_
            · simpa using hcut.1
            · have e1 : ((x.l.length : Int) - K).toNat = x.l.length - K.toNat := by omega
              have e2 : ((lcap : Int) - K).toNat = lcap - K.toNat := by omega
              rw [e1, e2]
              exact hcut.2
    · refine walk (both g0 (both g1 (both g10 hfull))) ?_
      cases la with
      | none =>
        have hx0 : x.l = [] := by
          rcases Nat.eq_zero_or_pos x.l.length with h0 | h0
          · exact List.eq_nil_of_length_eq_zero h0
          · obtain ⟨_, _, _, _, _, _, e, _⟩ := hl1.at h0; cases e
        obtain rfl : K = 0 := by rw [hx0] at hK2; simp at hK2; omega
        rw [hx0] at hdone ⊢
        simp only [hx0, List.length_nil] at g9
        refine Wq.regionD [0, 1, 2, 3, 4, 5, 6, 7, 8, 9, 10] (by kernel_rfl) ?_
        refine walk (both g2 (both g9 g10)) ?_
        exact hdone (by rw [show n.toNat - ob.length = 0 by omega, takeQ_zero]) _ _ (by simpa using List0.nil) (by simpa using List0.nil)
      | some q =>
        obtain ⟨b1, o1⟩ := q
        have hcut := hSl.cut (k := K.toNat) (by omega)
        have hlx5 : lx = none ∨ lx = some 5 := hlx
        refine Wq.regionD [0, 1, 2, 3, 4, 5, 6, 7, 8, 9, 10] (by kernel_rfl) ?_
        refine walk (both g2 (both g9 (both g10 hlx5))) ?_
        refine hdone (by rw [show n.toNat - ob.length = 0 by omega, takeQ_zero]) _ _ ?_ ?_
        · simpa using hcut.1
        · have e1 : ((x.l.length : Int) - K).toNat = x.l.length - K.toNat := by omega
          have e2 : ((lcap : Int) - K).toNat = lcap - K.toNat := by omega
          rw [e1, e2]
          exact hcut.2
end Go.Abs

/- Chapter 11: Put, walked. -/
namespace Go.Abs
open Go.Proofs
set_option maxRecDepth 100000
set_option linter.unusedVariables false
set_option linter.unusedSimpArgs false

/-- Bytes put to the last part. -/
def lastB (l : List Part) (b : List UInt8) : List Part := match l with
  | [] => []
  | [x] => [⟨x.b ++ b, x.l⟩]
  | x :: r => x :: lastB r b
/-- What Put leaves, how many bytes it takes, and the error. -/
def putQ (most : Int) (ql : List Part) (bs : List UInt8) (ls : List Pass) : List Part × Int × Int :=
  if bs = [] ∨ 4 < ls.length then (ql, 0, 22) else
  if most - total ql = 0 ∨ (ls ≠ [] ∨ ql = []) ∧ 16 ≤ ql.length then (ql, 0, 35) else
  (lastB (if ls ≠ [] ∨ ql = [] then ql ++ [⟨[], ls⟩] else ql) (bs.take (most - total ql).toNat), min bs.length (most - total ql), 0)
theorem lastB_snoc (l : List Part) (x : Part) (b : List UInt8) : lastB (l ++ [x]) b = l ++ [⟨x.b ++ b, x.l⟩] := by
  induction l with
  | nil => rfl
  | cons y l ih =>
    cases l with
    | nil => rfl
    | cons z l => simp only [List.cons_append, lastB] at ih ⊢; rw [ih]

/-- What Put leaves lies in these blocks. -/
def okP (H H' : Heap) (ok ok2 : Nat → Prop) (slv : AV) (b : Nat) : Prop := ok b ∨ ok2 b ∨ (H.next ≤ b ∧ b < H'.next ∧ slBlock slv ≠ some b)
/-- Midway: a part may be empty. -/
structure QueueM (H0 H : Heap) (p : Nat) (slv0 slv : AV) (ok ok2 : Nat → Prop) (ql : List Part) (most t : Int) : Prop where
  upd : Upd (fun b => b = p ∨ slBlock slv0 = some b) H0 H
  blk : slBlock slv = slBlock slv0 ∨ ∃ b, slBlock slv = some b ∧ H0.next ≤ b
  q : H.get p = some (.cells [slv, .int .i64 most, .int .i64 t] 68 true false)
  own : ∃ c, OwnG H 71 2 slv ql.length c ∧ Rows partS H (okP H0 H ok ok2 slv) c ql
theorem Rows.app1 {α : Type} {S : Shape α} {H : Heap} {ok : Nat → Prop} {c d : List AV} {l : List α} {x : α} (h : Rows S H ok c l) (g : S.R H ok d x) : Rows S H ok (c ++ d) (l ++ [x]) := h.app (Rows.one g)

theorem OwnG.lt0 {H : Heap} {elem : TypeId} {s n : Nat} {v : AV} {cs : List AV} (h : OwnG H elem s v n cs) (h0 : 0 < n) : ∀ b, slBlock v = some b → b < H.next := by
  intro b hb
  obtain ⟨a, cap, ex, rfl, _⟩ := h.form
  obtain ⟨b', o, c, rfl, _, _, hlt, _⟩ := h.at h0
  simp [slBlock] at hb; subst hb; exact hlt
theorem total_app (a b : List Part) : total (a ++ b) = total a + total b := by simp [total]

theorem put_ok {H : Heap} {p : Nat} {slv : AV} {ok ok2 : Nat → Prop} {ql : List Part} {most : Int} (h : QueueR H p slv ok ql most) (vb vl : AV) (bs : List UInt8) (ls : List Pass) (hb : bytesS.R H ok2 [vb] bs) (hl : List0 passS H ok2 vl ls) (h2 : ∀ b, ok2 b → okQ H p slv b) (hbs : bs.length ≤ 1000) (hls : ls.length ≤ 1000) :
    Cl Try.prog pr11 16 [.ptr (some (p, 0)), vb, vl] H fun w H' => w = .tuple [.int .i64 (putQ most ql bs ls).2.1, .int .i64 (putQ most ql bs ls).2.2] ∧ ∃ slv', Upd (fun b => b = p ∨ slBlock slv = some b) H H' ∧ (slBlock slv' = slBlock slv ∨ ∃ b, slBlock slv' = some b ∧ H.next ≤ b) ∧
      QueueR H' p slv' (okP H H' ok ok2 slv') (putQ most ql bs ls).1 most := by
  obtain ⟨vb', e, hbS, hbo, hbm⟩ := hb
  injection e with e _; subst e
  obtain ⟨ba, bc, bx, rfl, hbc, hbx⟩ := hbS.form
  obtain ⟨la, lc, lx, rfl, hlc, hlx, hlm⟩ := hl.form
  have hq := h.q
  have hfit := h.fits
  have hmany := h.many
  have hap := h.apart
  obtain ⟨c, ho, hr⟩ := h.own
  obtain ⟨a, cap, ex, rfl, hcap, hex⟩ := ho.form
  have hno : ∀ H' slv', H' = H → slv' = AV.slice a ql.length cap ex → ∃ slv', Upd (fun b => b = p ∨ slBlock (AV.slice a ql.length cap ex) = some b) H H' ∧ (slBlock slv' = slBlock (AV.slice a ql.length cap ex) ∨ ∃ b, slBlock slv' = some b ∧ H.next ≤ b) ∧
      QueueR H' p slv' (okP H H' ok ok2 slv') ql most := by
    rintro H' slv' rfl rfl
    refine ⟨_, Upd.rfl, .inl rfl, h.q, ⟨c, ho, hr.mono fun _ h => .inl h⟩, fun b hb => ?_, h.apart, h.ne, h.many, h.fits, h.lt, h.few⟩
    rcases hb with hb | hb | hb
    · exact h.okd b hb
    · exact h2 b hb
    · omega
  have hbe : bs.length = 0 ↔ bs = [] := List.length_eq_zero_iff
  refine Cl.wf fun hw => ?_
  have hpl := hw.lt hq
  refine Cl.enter Try.func16 rfl rfl Try.ntmps16 (by simp) ?_
  by_cases c1 : bs = []
  · subst c1
    refine walk hq ?_
    exact ⟨by simp [putQ], by simpa [putQ] using hno _ _ rfl rfl⟩
  · have hb0 : 0 < bs.length := List.length_pos_iff.2 c1
    by_cases c2 : 4 < ls.length
    · refine walk (both hq (both c1 c2)) ?_
      exact ⟨by simp [putQ, c2], by simpa [putQ, c2] using hno _ _ rfl rfl⟩
    · refine Wq.seq ?_
      refine walkr none0 ?_
      refine Wq.seq ?_
      refine Wq.seq ?_
      refine walkr (both hq (both c1 c2)) ?_
      refine Wq.seq (Wq.mono (Q := fun z e2 Hx => z = .normal ∧ Hx = H ∧ e2 8 = .bool (decide (ls ≠ [] ∨ ql = [])) ∧ e2 0 = .ptr (some (p, 0)) ∧ e2 1 = .slice ba bs.length bc bx ∧ e2 2 = .slice la ls.length lc lx) ?_ ?_)
      · by_cases c3 : ls = []
        · have c3' : ls.length = 0 := by rw [c3]; rfl
          refine walk (both hq c3') ?_
          refine ⟨rfl, rfl, ?_, by simp, by simp, by simp⟩
          simp [c3]
        · have c3' : 0 < ls.length := List.length_pos_iff.2 c3
          refine walk (both hq c3') ?_
          refine ⟨rfl, rfl, ?_, by simp, by simp, by simp⟩
          simp [c3]
      · rintro z e2 Hx _ ⟨rfl, rfl, g8, g0, g1, g2⟩
        generalize hbg : decide (ls ≠ [] ∨ ql = []) = bg at *
        refine walk (both g0 (both g1 (both g2 g8))) ?_
        refine (room_some h).mono fun w H1 _ ⟨e1, e2⟩ => ?_
        subst e1; subst e2
        by_cases c3 : most - ((total ql : Nat) : Int) = 0
        · refine walk (both g0 (both g1 (both g2 (both g8 c3)))) ?_
          have e3 : putQ most ql bs ls = (ql, 0, 35) := by simp only [putQ]; rw [if_neg (by simp [c1]; omega), if_pos (.inl c3)]
          rw [e3]
          exact ⟨rfl, hno _ _ rfl rfl⟩
        · by_cases c4 : bg = true ∧ 16 ≤ ql.length
          · obtain ⟨rfl, c5⟩ := c4
            refine walk (both g0 (both g1 (both g2 (both g8 (both c3 (both hq c5)))))) ?_
            have e3 : putQ most ql bs ls = (ql, 0, 35) := by simp only [putQ]; rw [if_neg (by simp [c1]; omega), if_pos (.inr ⟨of_decide_eq_true hbg, c5⟩)]
            rw [e3]
            exact ⟨rfl, hno _ _ rfl rfl⟩
          · have hk0 : 0 < min (bs.length : Int) (most - ((total ql : Nat) : Int)) := by omega
            refine walkr none0 ?_
            generalize hk : min (bs.length : Int) (most - ((total ql : Nat) : Int)) = k at *
            refine Wq.seq (Wq.mono (Q := fun z e3 Hx => z = .normal ∧ Hx = H1 ∧ e3 0 = .ptr (some (p, 0)) ∧ e3 1 = .slice ba bs.length bc bx ∧ e3 2 = .slice la ls.length lc lx ∧ e3 8 = .bool bg ∧ e3 9 = .int .i64 k) ?_ ?_)
            · cases hb : bg with
              | true =>
                have c5 : ql.length < 16 := by
                  rcases Nat.lt_or_ge ql.length 16 with h | h
                  · exact h
                  · exact absurd ⟨hb, h⟩ c4
                subst hb
                refine walk (both g0 (both g1 (both g2 (both g8 (both hq c5))))) ?_
                exact ⟨rfl, rfl, by simp [g0], by simp [g1], by simp [g2], by simp [g8], by simp⟩
              | false =>
                subst hb
                refine walk (both g0 (both g1 (both g2 (both g8 hq)))) ?_
                exact ⟨rfl, rfl, by simp [g0], by simp [g1], by simp [g2], by simp [g8], by simp⟩
            rintro z e3 Hx _ ⟨rfl, e, g0, g1, g2, g8, g9⟩
            obtain rfl : H1 = Hx := e.symm
            refine Thenq.normal ?_
            refine Wq.seq (Wq.mono (Q := fun z e3 Hx => z = .normal ∧ (∃ slv1, QueueM H1 Hx p (AV.slice a ql.length cap ex) slv1 ok ok2 (if bg = true then ql ++ [⟨[], ls⟩] else ql) most (total ql : Nat) ∧ slBlock slv1 ≠ some p) ∧ e3 0 = .ptr (some (p, 0)) ∧ e3 1 = .slice ba bs.length bc bx ∧ e3 9 = .int .i64 k) ?_ ?_)
            · cases hb : bg with
              | true =>
                have c5 : ql.length < 16 := by
                  rcases Nat.lt_or_ge ql.length 16 with h | h
                  · exact h
                  · exact absurd ⟨hb, h⟩ c4
                subst hb
                obtain ⟨cl, hlS, hlb, _, hlr⟩ := hl.open
                refine walk (both g0 (both g1 (both g2 (both g8 g9)))) ?_
                refine Wq.regionM [(5, 0), (6, 0), (1, 0), (2, 0), (3, 0), (4, 2), (7, 0), (8, 0), (9, 0), (0, 0), (10, 0), (11, 0), (12, 0)] (by kernel_rfl) ?_
                refine mwalk (both g0 (both g1 (both g2 g8))) ?_
                refine Cl.wfK ((clone28 _ _ cl H1 hlS hlr.all1 (by omega)).mono fun w H2 hn2 hF hw2 => ?_)
                have hq2 := (hF.keep.get hpl).trans hq
                obtain ⟨wa, wx, rfl, hwx⟩ := hF.own.form
                refine mwalk (both g0 (both g1 (both g2 (both g8 (both hq2 (both hq c5)))))) ?_
                have k2 : Keep H1 (H2.push (AObj.cells [AV.slice none 0 0 none, AV.slice wa ls.length ls.length wx] 71 true false)) := hF.keep.push _
                refine Dq.appendG (own := (ho.kept k2)) (new := [AV.slice none 0 0 none, AV.slice wa ls.length ls.length wx]) (q := 1) rfl met_none (by simp (disch := omega) [g0, -getElem?_pos, wrapI64, tdivN, tmodN, ipos, ineg, dpos, dneg, slc_l, slc_h, slc_lh, slc_hm, slc_lhm, slc_0, slcR_some, slcR_none, cutS_ok, cutA_ok, byteAt_ok]; first | done | (repeat' (first | rfl | apply And.intro))) ⟨_, rfl, by simp; first | done | (repeat' (first | rfl | apply And.intro))⟩ rfl (by kernel_rfl) (by kernel_rfl) (by refine ⟨by simp, ?_⟩; simp (disch := omega) [srcCells, cellsAt, g0, -getElem?_pos, wrapI64, tdivN, tmodN, ipos, ineg, dpos, dneg, slc_l, slc_h, slc_lh, slc_hm, slc_lhm, slc_0, slcR_some, slcR_none, cutS_ok, cutA_ok, byteAt_ok]; first | done | rfl) (by simp [g0]) (by simp [g0]) (by omega) (by omega) fun w1 H3 o3 b3 s3 => ?_
                have hn3 := b3.1
                have hs3 : slBlock w1 = slBlock (AV.slice a ql.length cap ex) ∨ slBlock w1 = some (H2.next + 1) := s3
                have hnp : H1.next ≤ H2.next := hF.keep.next
                have hq3 : H3.get p = some (.cells [AV.slice a ql.length cap ex, .int .i64 most, .int .i64 (total ql : Nat)] 68 true false) := by
                  rw [b3.2.2 p (by simp; omega) (fun e => hap e.symm), k2.get hpl]; exact hq
                have hap1 : slBlock w1 ≠ some p := by
                  rcases hs3 with e | e
                  · rw [e]; exact hap
                  · rw [e]; intro e; injection e with e; omega
                obtain ⟨v1, vc1, vx1, rfl, _⟩ := o3.form
                refine mwalk (both g0 (both g1 (both g2 (both g8 hq3)))) ?_
                refine walk g0 ?_
                have u3 : Upd (fun b => b = p ∨ slBlock (AV.slice a ql.length cap ex) = some b) H1 H3 := (k2.mono fun _ _ h => h.elim).butOne b3 fun z hz _ => .inr hz
                generalize hHb : H3.set p _ = Hb
                have gp : Hb.get p = some (.cells [AV.slice v1 (ql.length + 1) vc1 vx1, .int .i64 most, .int .i64 (total ql : Nat)] 68 true false) := by subst hHb; simp
                have u4 : Upd (fun b => b = p ∨ slBlock (AV.slice a ql.length cap ex) = some b) H1 Hb := by
                  subst hHb; exact u3.set _ (by simp at hn3; omega) fun _ => .inl rfl
                have k4 : Upd (fun b => b = p ∨ slBlock (AV.slice a ql.length cap ex) = some b) H2 Hb := by
                  subst hHb; exact ((Upd.rfl.push _).butOne b3 fun z hz _ => .inr hz).set _ (by simp at hn3; omega) fun _ => .inl rfl
                have o4 : OwnG Hb 71 2 (AV.slice v1 (ql.length + 1) vc1 vx1) (ql.length + 1) (c ++ [AV.slice none 0 0 none, AV.slice wa ls.length ls.length wx]) := by
                  subst hHb; exact o3.keep (by simp) fun z hz _ => by rw [Heap.get_set, if_neg (fun e => hap1 (by rw [← e]; exact hz))]
                have hnot : ∀ z, ok z → ¬ (z = p ∨ slBlock (AV.slice a ql.length cap ex) = some z) := fun z hz => okQ.not z (h.okd z hz)
                have hnot2 : ∀ z, ok2 z → ¬ (z = p ∨ slBlock (AV.slice a ql.length cap ex) = some z) := fun z hz => okQ.not z (h2 z hz)
                have hwn : ∀ z, slBlock (AV.slice wa ls.length ls.length wx) = some z → ¬ (z = p ∨ slBlock (AV.slice a ql.length cap ex) = some z) := by
                  intro z hz h'
                  have h1' := hF.new z hz
                  rcases h' with h' | h'
                  · omega
                  · have := h.lt z h'; omega
                refine ⟨rfl, ⟨_, ⟨u4, hs3.elim .inl (fun e => .inr ⟨_, e, by omega⟩), gp, ⟨_, by simpa using o4, ?_⟩⟩, hap1⟩, by simp [g0], by simp [g1], by simp [g9]⟩
                refine ((hr.upd u4 hnot).mono fun _ h => .inl h).app1 (part_mk (x := ⟨[], ls⟩) ⟨_, rfl, Sl.nil, by simp [slBlock], by simp⟩ (List0.mk (c := cl) (hF.own.sl.upd k4 fun z hz _ => hwn z hz) ?_ hlm ((hlr.upd u4 hnot2).mono fun _ h => .inr (.inl h))))
                intro z hz _
                have h1' := hF.new z hz
                have h2' := hF.own.lt z hz
                refine .inr (.inr ⟨h1', by have := k4.next; omega, ?_⟩)
                rcases hs3 with e | e
                · rw [e]; intro e; have := h.lt z e; omega
                · rw [e]; intro e; injection e with e; omega
              | false =>
                subst hb
                refine walk (both g0 (both g1 (both g2 (both g8 (both g9 hq))))) ?_
                exact ⟨rfl, ⟨_, ⟨Upd.rfl, .inl rfl, hq, ⟨c, ho, hr.mono fun _ h => .inl h⟩⟩, hap⟩, by simp [g0], by simp [g1], by simp [g9]⟩
            · rintro z e3 Hx _ ⟨rfl, ⟨slv1, hM, hap1⟩, g0, g1, g9⟩
              refine Thenq.normal ?_
              obtain ⟨cM, hMo, hMr⟩ := hM.own
              have hMq := hM.q
              have hMu := hM.upd
              have hblk := hM.blk
              obtain ⟨l0, x, hql⟩ : ∃ l0 x, (if bg = true then ql ++ [(⟨[], ls⟩ : Part)] else ql) = l0 ++ [x] := by
                cases hb : bg with
                | true => exact ⟨ql, ⟨[], ls⟩, by simp⟩
                | false =>
                  have hne : ql ≠ [] := by
                    rintro rfl
                    rw [hb] at hbg
                    have := of_decide_eq_false hbg
                    simp at this
                  exact ⟨ql.dropLast, ql.getLast hne, by simp [List.dropLast_concat_getLast hne]⟩
              have hput : putQ most ql bs ls = (l0 ++ [⟨x.b ++ bs.take k.toNat, x.l⟩], k, 0) := by
                have e1 : (if ls ≠ [] ∨ ql = [] then ql ++ [(⟨[], ls⟩ : Part)] else ql) = l0 ++ [x] := by
                  rw [← hql, ← hbg]; simp
                have e2 : bs.take (most - (total ql : Nat)).toNat = bs.take k.toNat := by
                  rcases Int.le_total (bs.length : Int) (most - (total ql : Nat)) with h' | h'
                  · rw [List.take_of_length_le (by omega), List.take_of_length_le (by omega)]
                  · congr 1; omega
                simp only [putQ]
                rw [if_neg (by simp [c1]; omega), if_neg, e1, e2, lastB_snoc, hk]
                rintro (h' | ⟨h', h''⟩)
                · exact c3 h'
                · exact c4 ⟨by rw [← hbg]; exact decide_eq_true h', h''⟩
              rw [hput]
              rw [hql] at hMo hMr
              obtain ⟨a1, cap1, ex1, rfl, hcap1, hex1⟩ := hMo.form
              obtain ⟨b1, o1, d1, rfl, _, _, hb1, hb2, hb5, hb3, hb4⟩ := hMo.at (by simp)
              obtain ⟨vb, vl, x0, x1, f0, f1, ⟨vb', e, hS, hok, hmax⟩, f3⟩ := part_at (i := l0.length) (x := x) hMr (by simp) hb4
              injection e with e _; subst e
              have hlen1 : (l0 ++ [x]).length = l0.length + 1 := by simp
              simp only [hlen1] at hb3 hcap1 hMq hb5 hb4 hMo
              have hpb : b1 ≠ p := fun e => hap1 (by rw [e]; rfl)
              have hl0 : l0.length + 1 ≤ 16 := by
                have := congrArg List.length hql
                rw [hlen1] at this
                cases hb : bg with
                | true => rw [hb] at this; simp at this; have : ¬ 16 ≤ ql.length := fun h' => c4 ⟨hb, h'⟩; omega
                | false => rw [hb] at this; simp at this; omega
              have htl : total l0 + x.b.length = total ql := by
                have := congrArg total hql
                rw [total_app] at this
                cases hb : bg with
                | true => rw [hb] at this; simp [total_app, total] at this ⊢; omega
                | false => rw [hb] at this; simp [total] at this ⊢; omega
              have hidx : ((l0.length + 1 : Nat) : Int) - 1 = l0.length := by omega
              refine walk g0 ?_
              refine Wq.regionD [0, 1, 2, 3, 4, 5, 6, 7, 8, 9, 10, 11] (by kernel_rfl) ?_
              refine walk (both g0 (both g1 (both g9 (both hMq (both hb2 (both hidx x0)))))) ?_
              refine Wq.regionD [1, 2, 3, 4, 5, 6, 7, 8, 9, 0, 10, 11, 12] (by kernel_rfl) ?_
              have hk1 : k ≤ bs.length := by omega
              obtain ⟨va, vc, vx, rfl, hvc, hvx⟩ := hS.form
              have hnot2 : ∀ z, ok2 z → ¬ (z = p ∨ slBlock (AV.slice a ql.length cap ex) = some z) := fun z hz => okQ.not z (h2 z hz)
              have hbS2 := hbS.upd hMu fun z hz h0 => hnot2 z (hbo z hz (by omega))
              obtain ⟨b2, o2, _, _, _, _, rfl, _⟩ := hbS.at hb0
              refine walk (both g0 (both g1 (both g9 (both hMq (both hb2 (both hidx (both x0 hbx))))))) ?_
              have hsub := hbS2.sub (k := 0) (m := k.toNat) (cap' := bc) (ex' := bx) (by omega) (by omega) hbx
              simp only [Nat.zero_mul, Nat.add_zero, List.drop_zero, Nat.mul_one, bytes_take] at hsub
              refine Cl.wfK ((concat2 _ _ _ _ _ _ _ _ (OwnSl.mk (n := 2) (cs := [_, _]) (elem := 27) (by simp) (by simp) (by simp)).sl (hS.push _) (hsub.push _) (cellsOfBytes_one _) (cellsOfBytes_one _) (by omega) (by omega)).mono fun w H5 hn5 hF hw5 => ?_)
              have k5 : Keep Hx H5 := (Upd.rfl.push _).then hF.keep
              have hpx : p < Hx.next := by have := hMu.next; omega
              have hq5 := (k5.get hpx).trans hMq
              have hb5' := (k5.get hb1).trans hb2
              obtain ⟨wa, wcap, wx, rfl, _⟩ := hF.own.form
              have hn5' := k5.next
              have hlk : (bs.take k.toNat).length = k.toNat := by rw [List.length_take]; omega
              refine walk (both g0 (both g1 (both g9 (both hq5 (both hb5' (both x0 (both hpb hk1))))))) ?_
              generalize hnv : AV.slice wa (x.b.length + k.toNat) wcap wx = nv at *
              generalize hHb : Heap.set (Heap.set _ _ _) _ _ = Hb
              have hu : Upd (fun z => z = p ∨ slBlock (AV.slice (some (b1, o1)) (l0.length + 1) cap1 ex1) = some z) Hx Hb := by
                subst hHb
                exact ((Upd.of k5).set _ (by omega) fun _ => .inr rfl).set _ (by simp; omega) fun _ => .inl rfl
              have gp : Hb.get p = some (.cells [AV.slice (some (b1, o1)) (l0.length + 1) cap1 ex1, AV.int IntKind.i64 most, AV.int IntKind.i64 ((total ql : Nat) + k)] 68 true false) := by subst hHb; simp
              have gb : Hb.get b1 = some (.cells (d1.set (o1 + l0.length * 2) nv) 71 true false) := by subst hHb; simp [hpb]
              have nb : Hb.next = H5.next := by subst hHb; simp
              have hu1 : Upd (fun z => z = p ∨ slBlock (AV.slice a ql.length cap ex) = some z) H1 Hb := hMu.trans hu fun z hz h' => by
                rcases h' with h' | h'
                · exact .inl h'
                · rcases hblk with e | ⟨z', e, h''⟩
                  · exact .inr (by rw [← e]; exact h')
                  · simp only [slBlock, Option.map_some] at e h'
                    rw [h'] at e; injection e with e; omega
              have hokn : ∀ z, okP H1 Hx ok ok2 (AV.slice (some (b1, o1)) (l0 ++ [x]).length cap1 ex1) z → ¬ (z = p ∨ slBlock (AV.slice (some (b1, o1)) (l0.length + 1) cap1 ex1) = some z) := by
                rintro z hz h'
                have e1 : slBlock (AV.slice (some (b1, o1)) (l0.length + 1) cap1 ex1) = some b1 := rfl
                have e2 : slBlock (AV.slice (some (b1, o1)) (l0 ++ [x]).length cap1 ex1) = some b1 := rfl
                rw [e1] at h'
                have hold : ∀ z, okQ H1 p (AV.slice a ql.length cap ex) z → ¬ (z = p ∨ some b1 = some z) := by
                  rintro z ⟨q1, q2, q3⟩ (h' | h')
                  · exact q2 h'
                  · rcases hblk with e | ⟨z', e, h''⟩
                    · rw [e2] at e; rw [← e] at q3; exact q3 h'
                    · rw [e2] at e; injection e with e; injection h' with h'; omega
                rcases hz with hz | hz | ⟨q1, q2, q3⟩
                · exact hold z (h.okd z hz) h'
                · exact hold z (h2 z hz) h'
                · rcases h' with h' | h'
                  · omega
                  · rw [e2] at q3; exact q3 h'
              have hmono : ∀ z, okP H1 Hx ok ok2 (AV.slice (some (b1, o1)) (l0 ++ [x]).length cap1 ex1) z → okP H1 Hb ok ok2 (AV.slice (some (b1, o1)) (l0.length + 1) cap1 ex1) z := by
                rintro z (hz | hz | ⟨q1, q2, q3⟩)
                · exact .inl hz
                · exact .inr (.inl hz)
                · exact .inr (.inr ⟨q1, by omega, q3⟩)
              have hset : ((d1.set (o1 + l0.length * 2) nv).drop o1).take ((l0.length + 1) * 2) = cM.set (l0.length * 2) nv := set_sub (i := l0.length * 2) (v := nv) hb4 (by omega)
              have hR := OwnG.refill (H' := Hb) (elem := 71) (s := 2) (n := l0.length + 1) (cap := cap1) (b := b1) (o := o1) (ex := ex1) hcap1 hex1 (by omega) gb (by rw [List.length_set]; omega)
              rw [hset] at hR
              have hSb : bytesS.R Hb (okP H1 Hb ok ok2 (AV.slice (some (b1, o1)) (l0.length + 1) cap1 ex1)) [nv] (x.b ++ bs.take k.toNat) := by
                have hnew : ∀ z, slBlock nv = some z → Hx.next + 1 ≤ z ∧ z < H5.next := fun z hz => by
                  have q := hF.new z (by rw [← hz])
                  simp at q
                  exact ⟨q, hF.own.lt0 (by omega) z hz⟩
                refine ⟨nv, rfl, ?_, fun z hz _ => .inr (.inr ⟨by have := hMu.next; have := hnew z hz; omega, by have := hnew z hz; omega, ?_⟩), by rw [List.length_append, hlk]; unfold maxLen; omega⟩
                · have := hF.own.sl
                  rw [bytes_app] at this
                  rw [List.length_append, hlk]
                  have u5 : Upd (fun z => z = p ∨ z = b1) H5 Hb := by
                    subst hHb
                    exact (Upd.rfl.set _ (by omega) fun _ => .inr rfl).set _ (by simp; omega) fun _ => .inl rfl
                  exact this.upd u5 fun z hz _ => by have := hnew z hz; omega
                · intro e; simp [slBlock] at e; have := hnew z hz; omega
              have hP : partS.R Hb (okP H1 Hb ok ok2 (AV.slice (some (b1, o1)) (l0.length + 1) cap1 ex1)) (((cM.drop (l0.length * partS.s)).take partS.s).set 0 nv) ⟨x.b ++ bs.take k.toNat, x.l⟩ := by
                rw [partS_s, f0]
                exact part_mk hSb ((sliceS passS).mono ((sliceS passS).upd f3 hu hokn) hmono)
              have hrr := ((hMr.upd hu hokn).mono hmono).put (i := l0.length) (k := 0) (by simp) (by decide) hP
              simp only [partS_s, Nat.add_zero, List.set_append_right _ _ (Nat.le_refl _), Nat.sub_self, List.set_cons_zero] at hrr
              have htn : total (l0 ++ [⟨x.b ++ bs.take k.toNat, x.l⟩]) = total ql + k.toNat := by
                rw [total_app, ← htl]
                simp only [total, List.map_cons, List.map_nil, List.sum_cons, List.sum_nil, List.length_append, hlk]
                omega
              refine ⟨by simp, AV.slice (some (b1, o1)) (l0.length + 1) cap1 ex1, hu1, hblk, ⟨?_, ⟨_, by simpa using hR, hrr⟩, ?_, by simpa [slBlock] using hpb, ?_, by simp; omega, ?_, ?_, ?_⟩⟩
              · rw [gp, htn, show ((total ql + k.toNat : Nat) : Int) = (total ql : Nat) + k by omega]
              · rintro z (hz | hz | ⟨q1, q2, q3⟩)
                · exact okQ.mono (by have := hMu.next; omega) hblk z (h.okd z hz)
                · exact okQ.mono (by have := hMu.next; omega) hblk z (h2 z hz)
                · exact ⟨q2, by omega, q3⟩
              · intro y hy
                simp only [List.mem_append, List.mem_singleton] at hy
                rcases hy with hy | rfl
                · refine h.ne y ?_
                  cases hb : bg with
                  | true =>
                    rw [hb, if_pos rfl] at hql
                    rw [List.append_inj_left' hql rfl]; exact hy
                  | false =>
                    rw [hb, if_neg (by decide)] at hql
                    rw [hql]; simp [hy]
                · exact List.length_pos_iff.1 (by simp; omega)
              · rw [htn]; omega
              · intro z hz; simp [slBlock] at hz; omega
              · have hfew : ∀ y ∈ l0 ++ [x], y.l.length ≤ 4 := by
                  rw [← hql]
                  cases hb : bg with
                  | true =>
                    rw [if_pos rfl]
                    intro y hy
                    rcases List.mem_append.1 hy with hy | hy
                    · exact h.few y hy
                    · rw [List.mem_singleton.1 hy]; simp; omega
                  | false => rw [if_neg (by decide)]; exact h.few
                intro y hy
                rcases List.mem_append.1 hy with hy | hy
                · exact hfew y (by simp [hy])
                · rw [List.mem_singleton.1 hy]; exact hfew x (by simp)
end Go.Abs

/- Chapter 11: the reference's readings, walked; and what makes all that is passed one list. -/
namespace Go.Abs
open Go.Proofs
set_option maxRecDepth 100000
set_option linter.unusedVariables false
set_option linter.unusedSimpArgs false

section
variable {α : Type} {S : Shape α} {H H' : Heap} {ok ok' fp : Nat → Prop} {v : AV} {l : List α}
theorem List0.kept (h : List0 S H ok v l) (k : Keep H H') : List0 S H' ok v l := (sliceS S).kept h k
theorem List0.upd (h : List0 S H ok v l) (u : Upd fp H H') (hd : ∀ b, ok b → ¬ fp b) : List0 S H' ok v l := (sliceS S).upd h u hd
theorem List0.mono (h : List0 S H ok v l) (hd : ∀ b, ok b → ok' b) : List0 S H ok' v l := (sliceS S).mono h hd
end
theorem get_lt {α : Type} {l : List α} {i : Nat} (h : i < l.length) : ∃ x, l[i]? = some x := ⟨l[i], by simp [h]⟩
theorem take_succ_eq {α : Type} {x y : List α} {i : Nat} {a : α} (hx : x[i]? = some a) (hy : y[i]? = some a) (h : x.take i = y.take i) : x.take (i + 1) = y.take (i + 1) := by
  rw [List.take_add_one, List.take_add_one, hx, hy, h]
theorem ne_of_get {α : Type} {x y : List α} {i : Nat} {a b : α} (hx : x[i]? = some a) (hy : y[i]? = some b) (h : a ≠ b) : x ≠ y := by
  rintro rfl
  rw [hx] at hy; injection hy with hy; exact h hy
theorem eq_of_take {α : Type} {x y : List α} {i : Nat} (hl : x.length = y.length) (hi : x.length ≤ i) (h : x.take i = y.take i) : x = y := by
  rwa [List.take_of_length_le hi, List.take_of_length_le (by omega)] at h

theorem Pass.ext' {p q : Pass} (h1 : p.file = q.file) (h2 : p.rights = q.rights) (h3 : p.fcn = q.fcn) (h4 : p.all = q.all ∧ p.l = q.l) : p = q := by
  cases p; cases q; simp_all
theorem total_take (l : List Part) {i : Nat} {x : Part} (h : l[i]? = some x) : total (l.take (i + 1)) = total (l.take i) + x.b.length := by
  rw [List.take_add_one, h, total_app]; simp [total]
theorem total_le (l : List Part) (i : Nat) : total (l.take i) ≤ total l := by
  have := total_app (l.take i) (l.drop i)
  rw [List.take_append_drop] at this; omega
end Go.Abs

/- Chapter 11: lists of what is passed, and of parts, made: All, Clear, Dump, passed; and parts compared. -/
namespace Go.Abs
open Go.Proofs
set_option maxRecDepth 100000
set_option linter.unusedVariables false
set_option linter.unusedSimpArgs false

def allP (l : List Part) : List Pass := l.flatMap (·.l)
theorem allP_take (l : List Part) {i : Nat} {x : Part} (h : l[i]? = some x) : allP (l.take (i + 1)) = allP (l.take i) ++ x.l := by
  rw [List.take_add_one, h]; simp [allP]
theorem allP_few {l : List Part} {n : Nat} (h : ∀ x ∈ l, x.l.length ≤ n) : (allP l).length ≤ l.length * n := by
  induction l with
  | nil => simp [allP]
  | cons x l ih =>
    have h1 := h x (by simp)
    have h2 := ih fun y hy => h y (by simp [hy])
    simp only [allP, List.flatMap_cons, List.length_append, List.length_cons, Nat.add_mul] at h2 ⊢
    omega

theorem conv_ne {P : Program} {H : Heap} {s t : TypeId} {v : AV} {bs : List UInt8} (h1 : bytesT P s = true) (h2 : isStrT P t = true) (h : Sl H 1 v bs.length (cellsOfBytes bs)) (hb : bs ≠ []) : convR P s t (some v) H = some (.str bs, H) :=
  conv_sl h1 h2 h fun b o n c x e => by
    obtain ⟨a, cap, ex, e2, _⟩ := h.form
    subst e2
    injection e with e1 e2 _ _
    subst e1; subst e2
    obtain ⟨b', o', c', t', w', m', e3, q1, q2, q3, _⟩ := h.at (List.length_pos_iff.2 hb)
    simp only [Option.some.injEq, Prod.mk.injEq] at e3
    obtain ⟨rfl, rfl⟩ := e3
    exact ⟨q1, c', t', w', m', q2, by omega⟩
end Go.Abs

/- Chapter 11: Clear, Dump, walked. -/
namespace Go.Abs
open Go.Proofs
set_option maxRecDepth 100000
set_option linter.unusedVariables false
set_option linter.unusedSimpArgs false

/-- Blocks made since, but a slice's own. -/
def okN (H H' : Heap) (v : AV) (b : Nat) : Prop := H.next ≤ b ∧ b < H'.next ∧ slBlock v ≠ some b
theorem Rows.grow {α : Type} {S : Shape α} {H H' H1 : Heap} {ok : Nat → Prop} {v v' : AV} {c : List AV} {l : List α} (h : Rows S H' (fun b => ok b ∨ okN H H' v b) c l) (hn : H.next ≤ H'.next) (hok : ∀ b, ok b → b < H.next)
    (hv : ∀ b, slBlock v = some b → H.next ≤ b) (b1 : ButOne (slBlock v) H' H1) (hs : slBlock v' = slBlock v ∨ slBlock v' = some H'.next) : Rows S H1 (fun b => ok b ∨ okN H H1 v' b) c l := by
  have hu : Upd (fun z => slBlock v = some z) H' H1 := Upd.rfl.butOne b1 fun z hz _ => hz
  refine (h.upd hu fun b hb hv' => ?_).mono fun b hb => ?_
  · rcases hb with hb | hb
    · have := hok b hb; have := hv b hv'; omega
    · exact hb.2.2 hv'
  · rcases hb with hb | ⟨q1, q2, q3⟩
    · exact .inl hb
    · refine .inr ⟨q1, by have := b1.1; omega, ?_⟩
      rcases hs with e | e
      · rw [e]; exact q3
      · rw [e]; intro e; injection e with e; omega
theorem Rows.growK {α : Type} {S : Shape α} {H H' H1 : Heap} {ok : Nat → Prop} {v : AV} {c : List AV} {l : List α} (h : Rows S H' (fun b => ok b ∨ okN H H' v b) c l) (k : Keep H' H1) : Rows S H1 (fun b => ok b ∨ okN H H1 v b) c l :=
  (h.kept k).mono fun b hb => hb.elim .inl fun ⟨q1, q2, q3⟩ => .inr ⟨q1, by have := k.next; omega, q3⟩

end Go.Abs

/- Chapter 11: what is passed, made; QueueNews. -/
namespace Go.Abs
open Go.Proofs
set_option maxRecDepth 100000
set_option linter.unusedVariables false
set_option linter.unusedSimpArgs false

theorem passed_ok (n k : Int) (H : Heap) (hk0 : 0 ≤ k) (hk : k ≤ 10000) (hn1 : -9223372036854775808 ≤ n) (hn2 : n ≤ 9223372036854775807) :
    Cl Try.prog pr11 7 [.int .i64 n, .int .i64 k] H fun w H' => ∃ ls c, ls.length ≤ 6 ∧ FreshG H H' 61 5 w ls.length c ∧ (∀ z, slBlock w = some z → z < H'.next) ∧ Rows passS H' (fun b => False ∨ okN H H' w b) c ls := by
  refine Cl.enter Try.func7 rfl rfl Try.ntmps7 (by simp) ?_
  refine walk none0 ?_
  refine Wq.loop (fun m e H' => ∃ ls c w, ls.length ≤ 6 ∧ m = 6 - ls.length ∧ e 0 = .int .i64 n ∧ e 1 = .int .i64 k ∧ e 5 = w ∧ e 6 = .int .i64 ls.length ∧ FreshG H H' 61 5 w ls.length c ∧ (∀ z, slBlock w = some z → z < H'.next) ∧ Rows passS H' (fun b => False ∨ okN H H' w b) c ls) 6 ?_ ?_
  · exact ⟨[], [], .slice (some (H.next, 0)) 0 0 none, by simp, by simp, by simp, by simp, by simp, by simp, FreshG.made (Upd.rfl.push (.cells [] 61 true false)) (by simp) (Nat.le_refl _) (by simp) (by simp), by simp [slBlock], Rows.nil⟩
  · rintro m e H' ⟨ls, c, w, hl, rfl, g0, g1, g5, g6, hF, hw, hR⟩
    by_cases h1 : (ls.length : Int) < n
    · by_cases h2 : (ls.length : Int) < 6
      · obtain ⟨wa, wc, wx, rfl, _⟩ := hF.own.form
        refine walk (both g0 (both g1 (both g5 (both g6 (both h1 h2))))) ?_
        generalize hcs : [AV.int IntKind.i64 (k + ls.length), AV.int IntKind.u32 (IntKind.u32.wrap k), AV.bool false, AV.slice (some (H'.next, 0)) 1 1 none, AV.int IntKind.i64 0] = cs
        have kk : Keep H' ((H'.push (.cells [.int .i64 ls.length] 3 true false)).push (.cells cs 61 true false)) := (Upd.rfl.push _).push _
        have hone : cs.all AV.one = true := by rw [← hcs]; rfl
        have hlen : cs.length = 5 := by rw [← hcs]; rfl
        refine Oq.appendG (own := (hF.then kk).own) (new := cs) (m := 1) (by simp (disch := omega) [g0, -getElem?_pos, wrapI64, tdivN, tmodN, ipos, ineg, dpos, dneg, slc_l, slc_h, slc_lh, slc_hm, slc_lhm, slc_0, slcR_some, slcR_none, cutS_ok, cutA_ok, byteAt_ok]; first | done | (repeat' (first | rfl | apply And.intro))) ⟨_, rfl, by simp; first | done | (repeat' (first | rfl | apply And.intro))⟩ rfl (by kernel_rfl) (by kernel_rfl) ((by refine ⟨by simp, ?_⟩; simp (disch := omega) [srcCells, cellsAt, hlen]; exact List.take_of_length_le (by omega))) (by rw [hlen]) hone (by omega) (by omega) fun w1 H1 o1 b1 s1 => ?_
        have hn1 := b1.1
        simp only [Heap.next_push] at hn1
        have hs1 : slBlock w1 = slBlock (AV.slice wa ls.length wc wx) ∨ slBlock w1 = some (H'.next + 1 + 1) := s1
        have hFn := hF.keep.next
        have ku : Upd (fun z => slBlock (AV.slice wa ls.length wc wx) = some z) ((H'.push (.cells [.int .i64 ls.length] 3 true false)).push (.cells cs 61 true false)) H1 := Upd.rfl.butOne b1 fun z hz _ => hz
        have gi : H1.get H'.next = some (.cells [.int .i64 ls.length] 3 true false) := by
          rw [ku.keep H'.next (by simp; omega) (fun e => by have := hw _ e; omega)]; simp
        have hp : passS.R H1 (fun b => False ∨ okN H H1 w1 b) cs ⟨k + ls.length, IntKind.u32.wrap k, false, [(ls.length : Int)], 0⟩ := by
          rw [← hcs]
          refine pass_mk (x := ⟨k + ls.length, IntKind.u32.wrap k, false, [(ls.length : Int)], 0⟩) ?_ ?_ ?_ ?_
          · simp [Lit.wf, IntKind.min, IntKind.max, IntKind.signed, IntKind.bits]; omega
          · exact wf_wrap _ _
          · simp [Lit.wf, IntKind.min, IntKind.max, IntKind.signed, IntKind.bits]
          · refine List0.mk (c := [.int .i64 ls.length]) ?_ (fun z hz _ => .inr ?_) (by simp; unfold maxLen; omega) (Rows.one ⟨rfl, by simp [Lit.wf, IntKind.min, IntKind.max, IntKind.signed, IntKind.bits]; omega⟩)
            · exact (OwnSl.mk (n := 1) (elem := 3) (by simp) (by omega) gi).sl
            · simp [slBlock] at hz; subst hz
              refine ⟨hFn, by omega, ?_⟩
              rcases hs1 with e | e
              · rw [e]; intro e; have := hw _ e; omega
              · rw [e]; intro e; injection e with e; omega
        refine walk (both g0 g6) ?_
        refine Roundq.normal (6 - (ls.length + 1)) (by omega) ⟨ls ++ [⟨k + ls.length, IntKind.u32.wrap k, false, [(ls.length : Int)], 0⟩], _, w1, by simp; omega, by simp, by simp [g0], by simp [g1], by simp, by simp, by simpa using (hF.then kk).app o1 b1 s1, o1.lt0 (by omega), ?_⟩
        exact ((hR.growK kk).grow (by simp; omega) (fun _ h => h.elim) hF.new b1 s1).app1 hp
      · refine walk (both g0 (both g1 (both g5 (both g6 (both h1 h2))))) ?_
        exact ⟨ls, c, hl, hF, hw, hR⟩
    · refine walk (both g0 (both g1 (both g5 (both g6 h1)))) ?_
      exact ⟨ls, c, hl, hF, hw, hR⟩

end Go.Abs

/- Chapter 11: the acts that come in; the two Takes are one; the act done to both. -/
namespace Go.Abs
open Go.Proofs
set_option maxRecDepth 100000
set_option linter.unusedVariables false
set_option linter.unusedSimpArgs false

theorem takeQ_ne {n : Nat} {x : Part} {r : List Part} (hn : n ≠ 0) (hx : x.b ≠ []) : (takeQ n (⟨x.b, []⟩ :: r)).1 ≠ [] := by
  have := List.length_pos_iff.2 hx
  by_cases h : x.b.length ≤ n
  · simp [takeQ, hn, h, hx]
  · simp [takeQ, hn, h, hx]

theorem take_no {H : Heap} {p : Nat} {slv : AV} {ok : Nat → Prop} {ql : List Part} {most : Int} (h : QueueR H p slv ok ql most) (n m : Int) (hn : n < 1 ∨ ql = []) :
    Cl Try.prog pr11 19 [.ptr (some (p, 0)), .int .i64 n, .int .i64 m] H fun w H' => w = .tuple [.slice none 0 0 none, .slice none 0 0 none, .slice none 0 0 none] ∧ H' = H := by
  have hq := h.q
  obtain ⟨c, ho, hr⟩ := h.own
  obtain ⟨a, cap, ex, rfl, hcap, hex⟩ := ho.form
  refine Cl.enter Try.func19 rfl rfl Try.ntmps19 (by simp) ?_
  by_cases hn1 : n < 1
  · refine walk hn1 ?_
    exact ⟨rfl, rfl⟩
  · obtain rfl := hn.resolve_left hn1
    refine walk (both hn1 hq) ?_
    exact ⟨rfl, rfl⟩
end Go.Abs

/- Chapter 11: an act done to the queue and to the reference, walked. -/
namespace Go.Abs
open Go.Proofs
set_option maxRecDepth 100000
set_option linter.unusedVariables false
set_option linter.unusedSimpArgs false

theorem QueueR.max {H : Heap} {p : Nat} {slv : AV} {ok : Nat → Prop} {ql : List Part} {most : Int} (h : QueueR H p slv ok ql most) : QueueR H p slv (okQ H p slv) ql most := by
  obtain ⟨c, h1, h2⟩ := h.own
  exact ⟨h.q, ⟨c, h1, h2.mono h.okd⟩, fun _ h => h, h.apart, h.ne, h.many, h.fits, h.lt, h.few⟩
theorem QueueR.kept {H H' : Heap} {p : Nat} {slv : AV} {ok : Nat → Prop} {ql : List Part} {most : Int} (h : QueueR H p slv ok ql most) (k : Keep H H') (hlt : p < H.next) : QueueR H' p slv ok ql most :=
  h.keep k id (fun ⟨_, _, h⟩ => h) (fun _ _ h => h) hlt
/-- The array's block is the one that it was, or new. -/
abbrev From (H : Heap) (slv slv' : AV) : Prop := ∀ z, slBlock slv' = some z → slBlock slv = some z ∨ H.next ≤ z
theorem From.rfl {H : Heap} {s : AV} : From H s s := fun _ h => .inl h
theorem From.of {H : Heap} {s s' : AV} (h : slBlock s' = slBlock s ∨ ∃ b, slBlock s' = some b ∧ H.next ≤ b) : From H s s' := fun z hz => by
  rcases h with e | ⟨b, e, hb⟩
  · exact .inl (e ▸ hz)
  · rw [e] at hz; injection hz with hz; exact .inr (hz ▸ hb)
theorem From.trans {H H1 : Heap} {s s1 s2 : AV} (h : From H s s1) (g : From H1 s1 s2) (hn : H.next ≤ H1.next) : From H s s2 := fun z hz => by
  rcases g z hz with e | e
  · exact h z e
  · exact .inr (by omega)
theorem okQ.up {H H' : Heap} {p : Nat} {slv slv' : AV} (hn : H.next ≤ H'.next) (hs : From H slv slv') (b : Nat) (h : okQ H p slv b) : okQ H' p slv' b := by
  obtain ⟨h1, h2, h3⟩ := h
  refine ⟨by omega, h2, fun e => ?_⟩
  rcases hs b e with e | e
  · exact h3 e
  · omega
theorem OwnG.list0 {α : Type} {S : Shape α} {H : Heap} {ok : Nat → Prop} {elem : TypeId} {v : AV} {c : List AV} {l : List α} (h : OwnG H elem S.s v l.length c) (hr : Rows S H ok c l) (hl : l.length ≤ 100000) : List0 S H (fun b => ok b ∨ slBlock v = some b) v l :=
  List0.mk h.sl (fun b hb _ => .inr hb) (by unfold maxLen; omega) (hr.mono fun _ h => .inl h)
end Go.Abs
