/- Texts on this program, joined. -/
import Derived.Test.YtbklaolbfpiamaaOwn07
import Derived.Test.YtbklaolbfpiamaaKit08
import Derived.Test.YtbklaolbfpiamaaKit04

/- Chapter 10: the queue, and what is told of it and done to it, walked. -/
namespace Go.Abs
open Go.Proofs
set_option maxRecDepth 100000
set_option linter.unusedVariables false
set_option linter.unusedSimpArgs false

def total (l : List Part) : Nat := (l.map fun x => x.b.length).sum
theorem total_cons (x : Part) (l : List Part) : total (x :: l) = x.b.length + total l := by simp [total]
def okQ (H : Heap) (p : Nat) (slv : AV) (b : Nat) : Prop := b < H.next ∧ b ≠ p ∧ slBlock slv ≠ some b
structure QueueR (H : Heap) (p : Nat) (slv : AV) (ok : Nat → Prop) (ql : List Part) (most : Int) : Prop where
  q : H.get p = some (.cells [slv, .int .i64 most, .int .i64 (total ql : Nat)] 51 true false)
  own : ∃ c, OwnG H 38 2 slv ql.length c ∧ Rows partS H ok c ql
  okd : ∀ b, ok b → okQ H p slv b
  apart : slBlock slv ≠ some p
  ne : ∀ x ∈ ql, x.b ≠ []
  many : ql.length ≤ 16
  fits : (total ql : Int) ≤ most ∧ 1 ≤ most ∧ most ≤ 4096
  lt : ∀ z, slBlock slv = some z → z < H.next
  few : ∀ x ∈ ql, x.l.length ≤ 4

/-- What turns elsewhere leaves it. -/
theorem QueueR.keep {H H' : Heap} {p : Nat} {slv : AV} {ok fp : Nat → Prop} {ql : List Part} {most : Int} (h : QueueR H p slv ok ql most) (u : Upd fp H H') (hp : ¬ fp p) (hs : ¬ ∃ b, slBlock slv = some b ∧ fp b) (hok : ∀ b, ok b → ¬ fp b) (hlt : p < H.next) : QueueR H' p slv ok ql most := by
  obtain ⟨c, h1, h2⟩ := h.own
  exact ⟨(u.keep p hlt hp).trans h.q, ⟨c, h1.upd u fun b hb hf => hs ⟨b, hb, hf⟩, h2.upd u hok⟩, fun b hb => ⟨by have := (h.okd b hb).1; have := u.next; omega, (h.okd b hb).2⟩, h.apart, h.ne, h.many, h.fits, fun z hz => by have := h.lt z hz; have := u.next; omega, h.few⟩
theorem lt_of_get? {α : Type} {l : List α} {i : Nat} {x : α} (h : l[i]? = some x) : i < l.length := by
  rcases Nat.lt_or_ge i l.length with h' | h'
  · exact h'
  · rw [List.getElem?_eq_none h'] at h; cases h
theorem part_at {H : Heap} {ok : Nat → Prop} {c d : List AV} {l : List Part} {i o : Nat} {x : Part} (h : Rows partS H ok c l) (hx : l[i]? = some x) (hd : (d.drop o).take (l.length * 2) = c) :
    ∃ vb vl, d[o + i * 2]? = some vb ∧ d[o + i * 2 + 1]? = some vl ∧ (c.drop (i * 2)).take 2 = [vb, vl] ∧ (d.drop (o + i * 2)).take 2 = [vb, vl] ∧ bytesS.R H ok [vb] x.b ∧ List0 passS H ok vl x.l := by
  have hi := lt_of_get? hx
  obtain ⟨vb, vl, e1, e2, e3⟩ := part_open (h.2 i x hx)
  rw [partS_s] at e1
  have e4 := sub_take (i := i * 2) (k := 2) hd (by omega)
  rw [e1] at e4
  refine ⟨vb, vl, ?_, ?_, e1, e4, e2, e3⟩
  · have := sub_get (i := 0) e4 (by omega); simpa using this
  · have := sub_get (i := 1) e4 (by omega); simpa using this

theorem len_some {H : Heap} {p : Nat} {slv : AV} {ok : Nat → Prop} {ql : List Part} {most : Int} (h : QueueR H p slv ok ql most) : Cl Try.prog pr10 18 [.ptr (some (p, 0))] H fun v H' => v = .int .i64 (total ql : Nat) ∧ H' = H := by
  have hq := h.q
  refine Cl.enter Try.func18 rfl rfl Try.ntmps18 (by simp) ?_
  refine walk hq ?_
  exact ⟨rfl, rfl⟩
theorem room_some {H : Heap} {p : Nat} {slv : AV} {ok : Nat → Prop} {ql : List Part} {most : Int} (h : QueueR H p slv ok ql most) : Cl Try.prog pr10 20 [.ptr (some (p, 0))] H fun v H' => v = .int .i64 (most - (total ql : Nat)) ∧ H' = H := by
  have hq := h.q
  have hf := h.fits
  refine Cl.enter Try.func20 rfl rfl Try.ntmps20 (by simp) ?_
  refine walk hq ?_
  refine Wq.regionD [0, 1, 2, 3, 4, 5, 6, 7, 8, 9] (by kernel_rfl) ?_
  refine walk hq ?_
  exact ⟨rfl, rfl⟩
theorem len_nil (H : Heap) : Cl Try.prog pr10 18 [.ptr none] H fun v H' => v = .int .i64 0 ∧ H' = H := by
  refine Cl.enter Try.func18 rfl rfl Try.ntmps18 (by simp) ?_
  refine walk none0 ?_
  exact ⟨rfl, rfl⟩
theorem room_nil (H : Heap) : Cl Try.prog pr10 20 [.ptr none] H fun v H' => v = .int .i64 0 ∧ H' = H := by
  refine Cl.enter Try.func20 rfl rfl Try.ntmps20 (by simp) ?_
  refine walk none0 ?_
  exact ⟨rfl, rfl⟩
theorem next_nil (H : Heap) : Cl Try.prog pr10 21 [.ptr none] H fun v H' => v = .int .i64 0 ∧ H' = H := by
  refine Cl.enter Try.func21 rfl rfl Try.ntmps21 (by simp) ?_
  refine walk none0 ?_
  exact ⟨rfl, rfl⟩
theorem take_nil (n most : Int) (H : Heap) : Cl Try.prog pr10 8 [.ptr none, .int .i64 n, .int .i64 most] H fun v H' => v = .tuple [.slice none 0 0 none, .slice none 0 0 none, .slice none 0 0 none] ∧ H' = H := by
  refine Cl.enter Try.func8 rfl rfl Try.ntmps8 (by simp) ?_
  refine walk none0 ?_
  exact ⟨rfl, rfl⟩
theorem clear_nil (H : Heap) : Cl Try.prog pr10 13 [.ptr none] H fun v H' => v = .slice none 0 0 none ∧ H' = H := by
  refine Cl.enter Try.func13 rfl rfl Try.ntmps13 (by simp) ?_
  refine walk none0 ?_
  exact ⟨rfl, rfl⟩
theorem dump_nil (H : Heap) : Cl Try.prog pr10 11 [.ptr none] H fun v H' => v = .slice none 0 0 none ∧ H' = H := by
  refine Cl.enter Try.func11 rfl rfl Try.ntmps11 (by simp) ?_
  refine walk none0 ?_
  exact ⟨rfl, rfl⟩
theorem put_nil (b l : AV) (H : Heap) : Cl Try.prog pr10 9 [.ptr none, b, l] H fun v H' => v = .tuple [.int .i64 0, .int .i64 22] ∧ H' = H := by
  refine Cl.enter Try.func9 rfl rfl Try.ntmps9 (by simp) ?_
  refine walk none0 ?_
  exact ⟨rfl, rfl⟩
theorem new_no (most : Int) (h : ¬ (1 ≤ most ∧ most ≤ 4096)) (H : Heap) : Cl Try.prog pr10 7 [.int .i64 most] H fun v H' => v = .ptr none ∧ H' = H := by
  refine Cl.enter Try.func7 rfl rfl Try.ntmps7 (by simp) ?_
  by_cases h1 : most < 1
  · refine walk h1 ?_
    exact ⟨rfl, rfl⟩
  · have h2 : 4096 < most := by omega
    refine walk (both h1 h2) ?_
    exact ⟨rfl, rfl⟩
theorem new_yes (most : Int) (h : 1 ≤ most ∧ most ≤ 4096) (H : Heap) : Cl Try.prog pr10 7 [.int .i64 most] H fun v H' => v = .ptr (some (H.next, 0)) ∧ Keep H H' ∧ QueueR H' H.next (.slice none 0 0 none) (fun _ => False) [] most := by
  have h1 : ¬ most < 1 := by omega
  have h2 : ¬ 4096 < most := by omega
  refine Cl.enter Try.func7 rfl rfl Try.ntmps7 (by simp) ?_
  refine walk (both h1 h2) ?_
  exact ⟨rfl, Upd.rfl.push _, by simp [total], ⟨[], OwnG.nil, Rows.nil⟩, fun _ h => h.elim, by simp [slBlock], by simp, by simp, by simp [total]; omega, by simp [slBlock], by simp⟩
theorem next_some {H : Heap} {p : Nat} {slv : AV} {ok : Nat → Prop} {ql : List Part} {most : Int} (h : QueueR H p slv ok ql most) : Cl Try.prog pr10 21 [.ptr (some (p, 0))] H fun v H' => v = .int .i64 (match ql with | [] => 0 | x :: _ => x.l.length) ∧ H' = H := by
  have hq := h.q
  obtain ⟨c, ho, hr⟩ := h.own
  obtain ⟨a, cap, ex, rfl, hcap, hex⟩ := ho.form
  refine Cl.enter Try.func21 rfl rfl Try.ntmps21 (by simp) ?_
  cases ql with
  | nil =>
    refine walk hq ?_
    exact ⟨rfl, rfl⟩
  | cons x r =>
    obtain ⟨b, o, d, rfl, _, _, hb1, hb2, _, hb3, hb4⟩ := ho.at (by simp)
    obtain ⟨vb, vl, x0, x1, _, _, e2, e3⟩ := part_at (i := 0) hr rfl hb4
    obtain ⟨la, lc, lx, rfl, _⟩ := e3.form
    simp only [List.length_cons] at hb3 hcap hq
    simp only [Nat.zero_mul, Nat.add_zero] at x0 x1
    refine walk (both hq (both hb2 x1)) ?_
    exact ⟨rfl, rfl⟩
/-- The queue's parts, read. -/
theorem QueueR.list {H : Heap} {p : Nat} {slv : AV} {ok : Nat → Prop} {ql : List Part} {most : Int} (h : QueueR H p slv ok ql most) : List0 partS H (fun b => ok b ∨ slBlock slv = some b) slv ql := by
  obtain ⟨c, h1, h2⟩ := h.own
  exact List0.mk h1.sl (fun b hb _ => .inr hb) (by have := h.many; unfold maxLen; omega) (h2.mono fun _ h => .inl h)
end Go.Abs

/- Chapter 10: cut, walked. -/
namespace Go.Abs
open Go.Proofs
set_option maxRecDepth 100000
set_option linter.unusedVariables false
set_option linter.unusedSimpArgs false

def cutQ : List Part → Nat → List Part
  | [], _ => []
  | x :: r, k => if x.b.length ≤ k then r else ⟨x.b.drop k, x.l⟩ :: r

theorem okQ.mono {H H' : Heap} {p : Nat} {s s' : AV} (hn : H.next ≤ H'.next) (hs : slBlock s' = slBlock s ∨ ∃ b, slBlock s' = some b ∧ H.next ≤ b) (b : Nat) (h : okQ H p s b) : okQ H' p s' b := by
  obtain ⟨h1, h2, h3⟩ := h
  refine ⟨by omega, h2, ?_⟩
  rcases hs with e | ⟨b', e, h4⟩
  · rw [e]; exact h3
  · rw [e]; intro e; injection e with e; omega
theorem okQ.not {H : Heap} {p : Nat} {s : AV} (b : Nat) (h : okQ H p s b) : ¬ (b = p ∨ slBlock s = some b) := fun h' => h'.elim h.2.1 h.2.2

theorem cut_ok {H : Heap} {p : Nat} {slv : AV} {ok : Nat → Prop} {x : Part} {r : List Part} {most : Int} (h : QueueR H p slv ok (x :: r) most) (n : Int) (hn : 1 ≤ n) (hn2 : n ≤ 9223372036854775807) :
    Cl Try.prog pr10 22 [.ptr (some (p, 0)), .int .i64 n] H fun w H' => ∃ slv', Upd (fun b => b = p ∨ slBlock slv = some b) H H' ∧ slBlock slv' = slBlock slv ∧ QueueR H' p slv' ok (cutQ (x :: r) n.toNat) most ∧ bytesS.R H' ok [w] (x.b.take n.toNat) := by
  have hnot : ∀ z, ok z → ¬ (z = p ∨ slBlock slv = some z) := fun z hz => okQ.not z (h.okd z hz)
  have hq := h.q
  have hfit := h.fits
  have hap := h.apart
  have hne := h.ne x (by simp)
  have hlen0 : 0 < x.b.length := List.length_pos_iff.2 hne
  have htot := total_cons x r
  obtain ⟨c, ho, hr⟩ := h.own
  obtain ⟨a, cap, ex, rfl, hcap, hex⟩ := ho.form
  obtain ⟨b, o, d, rfl, _, _, hb1, hb2, hb5, hb3, hb4⟩ := ho.at (by simp)
  obtain ⟨vb, vl, x0, x1, e0, e1, ⟨vb', e, hS, hok, hmax⟩, e3⟩ := part_at (i := 0) hr rfl hb4
  injection e with e _; subst e
  obtain ⟨va, vc, vx, rfl, hvc, hvx⟩ := hS.form
  obtain ⟨b1, o1, d1, t1, w1, m1, rfl, hc1, hc2, hc3, hc4⟩ := hS.at hlen0
  simp only [List.length_cons] at hb3 hcap hq hb5
  simp only [Nat.zero_mul, Nat.add_zero] at x0 x1 e0 e1
  have hpb : b ≠ p := fun e => hap (by rw [e]; rfl)
  refine Cl.wf fun hw => ?_
  have hpl := hw.lt hq
  refine Cl.enter Try.func22 rfl rfl Try.ntmps22 (by simp) ?_
  by_cases hk : (x.b.length : Int) ≤ n
  · have hm : min n (x.b.length : Int) = x.b.length := by omega
    refine walk (both hq (both hb2 (both x0 (both hpb hk)))) ?_
    simp only [hm, Int.toNat_natCast]
    generalize hv : AV.slice (some (b1, o1 + x.b.length)) _ _ vx = nv
    generalize hHb : Heap.set (Heap.set _ _ _) _ _ = Hb
    have hu : Upd (fun z => z = p ∨ slBlock (AV.slice (some (b, o)) (x :: r).length cap ex) = some z) H Hb := by
      subst hHb
      exact ((Upd.rfl.set _ hb1 fun _ => .inr rfl).set _ (by simpa using hpl) fun _ => .inl rfl).set _ (by simpa using hpl) fun _ => .inl rfl
    have gp : Hb.get p = some (.cells [AV.slice (some (b, o + 2)) r.length (cap - 1) ex, AV.int IntKind.i64 most, AV.int IntKind.i64 (↑(total (x :: r)) - ↑x.b.length)] 51 true false) := by subst hHb; simp
    have gb : Hb.get b = some (.cells (d.set o nv) 38 true false) := by subst hHb; simp [hpb]
    have nb : Hb.next = H.next := by subst hHb; simp
    have hok2 := okQ.mono (H := H) (H' := Hb) (p := p) (s := AV.slice (some (b, o)) (x :: r).length cap ex) (s' := AV.slice (some (b, o + 2)) r.length (cap - 1) ex) (by omega) (.inl rfl)
    have hw1 : (Hb.get b).isSome := by rw [gb]; rfl
    have hcut : cutQ (x :: r) n.toNat = r := by simp only [cutQ]; rw [if_pos (by omega)]
    have hml := h.many
    simp only [List.length_cons] at hml
    rw [hcut]
    have hset : ((d.set o nv).drop o).take ((r.length + 1) * 2) = c.set 0 nv := by have := set_sub (i := 0) (v := nv) hb4 (by simp); simpa using this
    have hR := OwnG.refill (H' := Hb) (elem := 38) (s := 2) (n := r.length + 1) (cap := cap) (b := b) (o := o) (ex := ex) hcap hex (by omega) gb (by rw [List.length_set]; omega)
    rw [hset] at hR
    have hR2 := hR.rest (k := 1) (by omega) (by omega)
    rw [List.drop_set_of_lt (by omega)] at hR2
    have hrr := hr.drop 1
    simp only [Nat.add_sub_cancel, Nat.one_mul, List.drop_one, List.tail_cons, partS_s] at hR2 hrr
    refine ⟨AV.slice (some (b, o + 2)) r.length (cap - 1) ex, hu, rfl, ⟨?_, ⟨_, hR2, hrr.upd hu hnot⟩, fun z hz => hok2 z (h.okd z hz), hap, fun y hy => h.ne y (by simp [hy]), by omega, by omega, fun z hz => by have := h.lt z (by rw [← hz]; rfl); omega, fun y hy => h.few y (by simp [hy])⟩, ?_⟩
    · rw [gp]; simp [htot]; omega
    · have ht : x.b.take n.toNat = x.b := List.take_of_length_le (by omega)
      rw [ht]
      refine ⟨_, rfl, ?_, fun z hz h0 => hok z (by rw [← hz]; rfl) hlen0, hmax⟩
      have := hS.sub (k := 0) (m := x.b.length) (cap' := x.b.length) (ex' := none) (by omega) (Nat.le_refl _) (.inl rfl)
      simp only [Nat.zero_mul, Nat.add_zero, List.drop_zero, Nat.mul_one] at this
      rw [List.take_of_length_le (by simp)] at this
      exact this.upd hu fun z hz h0 => hnot z (hok z (by rw [← hz]; rfl) hlen0)
  · have hm : min n (x.b.length : Int) = n := by omega
    refine walk (both hq (both hb2 (both x0 (both hpb hk)))) ?_
    simp only [hm]
    have hn3 : n.toNat < x.b.length := by omega
    rw [show ((x.b.length : Int) - n).toNat = x.b.length - n.toNat by omega, show ((vc : Int) - n).toNat = vc - n.toNat by omega]
    generalize hv : AV.slice (some (b1, o1 + n.toNat)) (x.b.length - n.toNat) (vc - n.toNat) vx = nv
    generalize hHb : Heap.set (Heap.set _ _ _) _ _ = Hb
    have hu : Upd (fun z => z = p ∨ slBlock (AV.slice (some (b, o)) (x :: r).length cap ex) = some z) H Hb := by
      subst hHb
      exact (Upd.rfl.set _ hb1 fun _ => .inr rfl).set _ (by simpa using hpl) fun _ => .inl rfl
    have gp : Hb.get p = some (.cells [AV.slice (some (b, o)) (r.length + 1) cap ex, AV.int IntKind.i64 most, AV.int IntKind.i64 (↑(total (x :: r)) - n)] 51 true false) := by subst hHb; simp
    have gb : Hb.get b = some (.cells (d.set o nv) 38 true false) := by subst hHb; simp [hpb]
    have nb : Hb.next = H.next := by subst hHb; simp
    have hok2 := okQ.mono (H := H) (H' := Hb) (p := p) (s := AV.slice (some (b, o)) (x :: r).length cap ex) (s' := AV.slice (some (b, o)) (r.length + 1) cap ex) (by omega) (.inl rfl)
    have hcut : cutQ (x :: r) n.toNat = ⟨x.b.drop n.toNat, x.l⟩ :: r := by simp only [cutQ]; rw [if_neg (by omega)]
    have hml := h.many
    simp only [List.length_cons] at hml
    rw [hcut]
    have hset : ((d.set o nv).drop o).take ((r.length + 1) * 2) = c.set 0 nv := by have := set_sub (i := 0) (v := nv) hb4 (by simp); simpa using this
    have hR := OwnG.refill (H' := Hb) (elem := 38) (s := 2) (n := r.length + 1) (cap := cap) (b := b) (o := o) (ex := ex) hcap hex (by omega) gb (by rw [List.length_set]; omega)
    rw [hset] at hR
    have hSb : bytesS.R Hb ok [nv] (x.b.drop n.toNat) := by
      have := hS.sub (k := n.toNat) (m := x.b.length - n.toNat) (cap' := vc - n.toNat) (ex' := vx) (by omega) (by omega) hvx
      simp only [Nat.mul_one] at this
      rw [hv, bytes_drop, List.take_of_length_le (by simp)] at this
      refine ⟨nv, rfl, ?_, fun z hz h0 => hok z (by rw [← hz, ← hv]; rfl) hlen0, by rw [List.length_drop]; omega⟩
      rw [List.length_drop]
      exact this.upd hu fun z hz h0 => hnot z (hok z (by rw [← hz, ← hv]; rfl) hlen0)
    have hP : partS.R Hb ok (((c.drop (0 * partS.s)).take partS.s).set 0 nv) ⟨x.b.drop n.toNat, x.l⟩ := by
      rw [partS_s, Nat.zero_mul, List.drop_zero]
      rw [List.drop_zero] at e0
      rw [e0]
      exact part_mk hSb ((sliceS passS).upd e3 hu hnot)
    have hrr := (hr.upd hu hnot).put (i := 0) (k := 0) (by simp) (by decide) hP
    simp only [Nat.zero_mul, Nat.add_zero, List.set_cons_zero] at hrr
    refine ⟨AV.slice (some (b, o)) (r.length + 1) cap ex, hu, rfl, ⟨?_, ⟨_, hR, hrr⟩, fun z hz => hok2 z (h.okd z hz), hap, ?_, by simp; omega, by rw [total_cons]; simp; omega, fun z hz => by have := h.lt z (by rw [← hz]; rfl); omega, fun y hy => (List.mem_cons.1 hy).elim (fun e => by rw [e]; exact h.few x (by simp)) fun hy => h.few y (by simp [hy])⟩, ?_⟩
    · rw [gp]; simp [htot, total_cons]; omega
    · intro y hy
      rcases List.mem_cons.1 hy with rfl | hy
      · exact List.length_pos_iff.1 (by simp; omega)
      · exact h.ne y (by simp [hy])
    · refine ⟨_, rfl, ?_, fun z hz h0 => hok z (by rw [← hz]; rfl) hlen0, by rw [List.length_take]; omega⟩
      have := hS.sub (k := 0) (m := n.toNat) (cap' := n.toNat) (ex' := none) (by omega) (Nat.le_refl _) (.inl rfl)
      simp only [Nat.zero_mul, Nat.add_zero, List.drop_zero, Nat.mul_one, bytes_take] at this
      rw [List.length_take, Nat.min_eq_left (by omega)]
      exact this.upd hu fun z hz h0 => hnot z (hok z (by rw [← hz]; rfl) hlen0)
end Go.Abs

/- Chapter 10: Take, walked. -/
namespace Go.Abs
open Go.Proofs
set_option maxRecDepth 100000
set_option linter.unusedVariables false
set_option linter.unusedSimpArgs false

/-- What is taken, and what is left. -/
def takeQ : Nat → List Part → List UInt8 × List Part
  | _, [] => ([], [])
  | n, x :: r => if n = 0 ∨ x.l ≠ [] then ([], x :: r) else
    if x.b.length ≤ n then (x.b ++ (takeQ (n - x.b.length) r).1, (takeQ (n - x.b.length) r).2) else (x.b.take n, ⟨x.b.drop n, x.l⟩ :: r)
theorem takeQ_zero (l : List Part) : takeQ 0 l = ([], l) := by cases l <;> simp [takeQ]
theorem takeQ_stop {n : Nat} {x : Part} {r : List Part} (h : x.l ≠ []) : takeQ n (x :: r) = ([], x :: r) := by simp [takeQ, h]
theorem takeQ_cut {n : Nat} {x : Part} {r : List Part} (hn : n ≠ 0) (h : x.l = []) : takeQ n (x :: r) = (x.b.take n ++ (takeQ (n - x.b.length) (cutQ (x :: r) n)).1, (takeQ (n - x.b.length) (cutQ (x :: r) n)).2) := by
  by_cases hl : x.b.length ≤ n
  · simp [takeQ, cutQ, hn, h, hl, List.take_of_length_le hl]
  · have : n - x.b.length = 0 := by omega
    simp [takeQ, cutQ, hn, h, hl, this, takeQ_zero]

theorem total_cutQ (x : Part) (r : List Part) (n : Nat) : (x.b.take n).length + total (cutQ (x :: r) n) = total (x :: r) := by
  simp only [cutQ]
  by_cases h : x.b.length ≤ n
  · rw [if_pos h, total_cons, List.take_of_length_le h]
  · rw [if_neg h, total_cons, total_cons, List.length_take, List.length_drop]; omega

theorem take_ok {H : Heap} {p : Nat} {slv : AV} {ok : Nat → Prop} {x : Part} {r : List Part} {most : Int} (h : QueueR H p slv ok (x :: r) most) (n m : Int) (hn : 1 ≤ n) (hn2 : n ≤ 9223372036854775807) (hm1 : -9223372036854775808 ≤ m) (hm2 : m ≤ 9223372036854775807) :
    Cl Try.prog pr10 8 [.ptr (some (p, 0)), .int .i64 n, .int .i64 m] H fun w H' => ∃ slv' wb wp wd, w = .tuple [wb, wp, wd] ∧ Upd (fun b => b = p ∨ slBlock slv = some b) H H' ∧ slBlock slv' = slBlock slv ∧ QueueR H' p slv' ok (takeQ n.toNat (⟨x.b, []⟩ :: r)).2 most ∧
      bytesS.R H' (fun b => H.next ≤ b ∧ b < H'.next) [wb] (takeQ n.toNat (⟨x.b, []⟩ :: r)).1 ∧ List0 passS H' ok wp (x.l.take (max (min m x.l.length) 0).toNat) ∧ List0 passS H' ok wd (x.l.drop (max (min m x.l.length) 0).toNat) := by
  have hnot : ∀ z, ok z → ¬ (z = p ∨ slBlock slv = some z) := fun z hz => okQ.not z (h.okd z hz)
  have hq := h.q
  have hfit := h.fits
  have hap := h.apart
  obtain ⟨c, ho, hr⟩ := h.own
  obtain ⟨a, cap, ex, rfl, hcap, hex⟩ := ho.form
  obtain ⟨b, o, d, rfl, _, _, hb1, hb2, hb5, hb3, hb4⟩ := ho.at (by simp)
  obtain ⟨vb, vl, x0, x1, e0, e1, hSb, hSl⟩ := part_at (i := 0) hr rfl hb4
  obtain ⟨lc, hl1, hl2, hl3, hl4⟩ := hSl.open
  obtain ⟨la, lcap, lx, rfl, hlc, hlx⟩ := hl1.form
  simp only [List.length_cons] at hb3 hcap hq hb5
  simp only [Nat.zero_mul, Nat.add_zero] at x0 x1 e0 e1
  have hpb : b ≠ p := fun e => hap (by rw [e]; rfl)
  have hml : x.l.length ≤ 9223372036854775807 := by unfold maxLen at hl3; omega
  refine Cl.wf fun hw => ?_
  have hpl := hw.lt hq
  have c1 : ¬ n < 1 := by omega
  refine Cl.enter Try.func8 rfl rfl Try.ntmps8 (by simp) ?_
  refine walk (both hq (both hb2 (both x0 (both x1 (both hpb c1))))) ?_
  have hps : ∀ (sv : AV), slBlock sv = some b → sv = sv := fun _ _ => rfl
  have gp : (H.set b (AObj.cells (d.set (o + 1) (AV.slice none 0 0 none)) 38 true false)).get p = some (.cells [AV.slice (some (b, o)) (r.length + 1) cap ex, .int .i64 most, .int .i64 (total (x :: r) : Nat)] 51 true false) := by simp [Ne.symm hpb, hq]
  have gb : (H.set b (AObj.cells (d.set (o + 1) (AV.slice none 0 0 none)) 38 true false)).get b = some (AObj.cells (d.set (o + 1) (AV.slice none 0 0 none)) 38 true false) := by simp
  have nb : (H.set b (AObj.cells (d.set (o + 1) (AV.slice none 0 0 none)) 38 true false)).next = H.next := by simp
  have hu : Upd (fun z => z = p ∨ slBlock (AV.slice (some (b, o)) (x :: r).length cap ex) = some z) H (H.set b (AObj.cells (d.set (o + 1) (AV.slice none 0 0 none)) 38 true false)) := Upd.rfl.set _ hb1 fun _ => .inr rfl
  generalize hHb : H.set b (AObj.cells (d.set (o + 1) (AV.slice none 0 0 none)) 38 true false) = Hb at *
  have hok2 := okQ.mono (H := H) (H' := Hb) (p := p) (s := AV.slice (some (b, o)) (x :: r).length cap ex) (s' := AV.slice (some (b, o)) (r.length + 1) cap ex) (by omega) (.inl rfl)
  have hQ0 : QueueR Hb p (AV.slice (some (b, o)) (r.length + 1) cap ex) ok (⟨x.b, []⟩ :: r) most := by
    have hset : ((d.set (o + 1) (AV.slice none 0 0 none)).drop o).take ((r.length + 1) * 2) = c.set 1 (AV.slice none 0 0 none) := by have := set_sub (i := 1) (v := AV.slice none 0 0 none) hb4 (by simp; omega); simpa using this
    have hR := OwnG.refill (H' := Hb) (elem := 38) (s := 2) (n := r.length + 1) (cap := cap) (b := b) (o := o) (ex := ex) hcap hex (by omega) gb (by rw [List.length_set]; omega)
    rw [hset] at hR
    have hP : partS.R Hb ok (((c.drop (0 * partS.s)).take partS.s).set 1 (AV.slice none 0 0 none)) ⟨x.b, []⟩ := by
      rw [partS_s, Nat.zero_mul, List.drop_zero]
      rw [List.drop_zero] at e0
      rw [e0]
      exact part_mk (bytesS.upd hSb hu hnot) List0.nil
    have hrr := (hr.upd hu hnot).put (i := 0) (k := 1) (by simp) (by decide) hP
    simp only [Nat.zero_mul, Nat.zero_add, List.set_cons_zero] at hrr
    refine ⟨?_, ⟨_, hR, hrr⟩, fun z hz => hok2 z (h.okd z hz), hap, ?_, by simpa using h.many, by rw [total_cons] at hfit ⊢; exact hfit, fun z hz => by have := h.lt z (by rw [← hz]; rfl); omega, fun y hy => (List.mem_cons.1 hy).elim (fun e => by rw [e]; simp) fun hy => h.few y (by simp [hy])⟩
    · rw [gp, total_cons, total_cons]
    · intro y hy
      rcases List.mem_cons.1 hy with rfl | hy
      · exact h.ne x (by simp)
      · exact h.ne y (by simp [hy])
  refine walk none0 ?_
  have hK1 : 0 ≤ max (min m (x.l.length : Int)) 0 := by omega
  have hK2 : max (min m (x.l.length : Int)) 0 ≤ x.l.length := by omega
  generalize max (min m (x.l.length : Int)) 0 = K at *
  refine Wq.loop (fun k e H' => ∃ sv ql' vo ob, e 0 = .ptr (some (p, 0)) ∧ e 1 = .int .i64 n ∧ e 2 = .int .i64 K ∧ e 9 = .slice la x.l.length lcap lx ∧ e 10 = vo ∧
    OwnSl H' 5 1 vo ob.length (cellsOfBytes ob) ∧ (∀ z, slBlock vo = some z → H.next ≤ z) ∧ QueueR H' p sv ok ql' most ∧ slBlock sv = some b ∧ Upd (fun z => z = p ∨ some b = some z) H H' ∧ (ob.length : Int) ≤ n ∧ ob.length + total ql' ≤ 4096 ∧ Wf H' ∧ k = n.toNat - ob.length ∧
    takeQ n.toNat (⟨x.b, []⟩ :: r) = (ob ++ (takeQ (n.toNat - ob.length) ql').1, (takeQ (n.toNat - ob.length) ql').2)) n.toNat ?_ ?_
  · exact ⟨_, _, .slice none 0 0 none, [], by simp, by simp, by simp, by simp, by simp, OwnSl.nil, by simp [slBlock], hQ0, rfl, hu, by simp; omega, by rw [total_cons] at hfit; rw [total_cons]; simp; omega, by rw [← hHb]; exact set_wf hb1 _ hw, by simp, by simp⟩
  · rintro k e H' ⟨sv, ql', vo, ob, g0, g1, g2, g9, g10, hO, hnew, hQ, hsb, hU, hol, hsum, hw', rfl, htk⟩
    have hq' := hQ.q
    have hf' := hQ.fits
    obtain ⟨oa, ox, rfl, _⟩ := hO.form
    obtain ⟨c', ho', hr'⟩ := hQ.own
    obtain ⟨a', cap', ex', rfl, hcap', hex'⟩ := ho'.form
    have hml := hQ.many
    have hdone : takeQ (n.toNat - ob.length) ql' = ([], ql') → ∀ wp wd, List0 passS H ok wp (x.l.take K.toNat) → List0 passS H ok wd (x.l.drop K.toNat) →
        ∃ slv' wb wp' wd', AV.tuple [AV.slice oa ob.length ob.length ox, wp, wd] = AV.tuple [wb, wp', wd'] ∧ Upd (fun z => z = p ∨ some b = some z) H H' ∧ slBlock slv' = some b ∧ QueueR H' p slv' ok (takeQ n.toNat (⟨x.b, []⟩ :: r)).2 most ∧ bytesS.R H' (fun b => H.next ≤ b ∧ b < H'.next) [wb] (takeQ n.toNat (⟨x.b, []⟩ :: r)).1 ∧ List0 passS H' ok wp' (x.l.take K.toNat) ∧ List0 passS H' ok wd' (x.l.drop K.toNat) := by
      intro hz wp wd h1 h2
      rw [htk, hz]
      exact ⟨AV.slice a' ql'.length cap' ex', _, _, _, rfl, hU, hsb, hQ, ⟨_, rfl, by simpa using hO.sl, fun z hz h0 => ⟨hnew z hz, hO.lt z hz⟩, by simp; have := hol; unfold maxLen; omega⟩, (sliceS passS).upd h1 hU hnot, (sliceS passS).upd h2 hU hnot⟩
    by_cases hfull : (ob.length : Int) < n
    · cases ql' with
      | nil =>
        refine walk (both g0 (both g1 (both g10 (both hq' hfull)))) ?_
        cases la with
        | none =>
          have hx0 : x.l = [] := by
            rcases Nat.eq_zero_or_pos x.l.length with h0 | h0
            · exact List.eq_nil_of_length_eq_zero h0
            · obtain ⟨_, _, _, _, _, _, e, _⟩ := hl1.at h0; cases e
          obtain rfl : K = 0 := by rw [hx0] at hK2; simp at hK2; omega
          rw [hx0] at hdone ⊢
          simp only [hx0, List.length_nil] at g9
          refine Wq.regionD [0, 1, 2, 3, 4, 5, 6, 7, 8, 9, 10] (by kernel_rfl) ?_
          refine walk (both g2 (both g9 g10)) ?_
          exact hdone (by simp [takeQ]) _ _ (by simpa using List0.nil) (by simpa using List0.nil)
        | some q =>
          obtain ⟨b1, o1⟩ := q
          have hcut := hSl.cut (k := K.toNat) (by omega)
          have hlx5 : lx = none ∨ lx = some 5 := hlx
          refine Wq.regionD [0, 1, 2, 3, 4, 5, 6, 7, 8, 9, 10] (by kernel_rfl) ?_
          refine walk (both g2 (both g9 (both g10 hlx5))) ?_
          refine hdone (by simp [takeQ]) _ _ ?_ ?_
          · simpa using hcut.1
          · have e1 : ((x.l.length : Int) - K).toNat = x.l.length - K.toNat := by omega
            have e2 : ((lcap : Int) - K).toNat = lcap - K.toNat := by omega
            rw [e1, e2]
            exact hcut.2
      | cons y r' =>
        obtain ⟨b2, o2, d2, rfl, _, _, k1, k2, _, k3, k4⟩ := ho'.at (by simp)
        obtain ⟨yb, yl, y0, y1, _, _, hyb, hyl⟩ := part_at (i := 0) hr' rfl k4
        obtain ⟨ya, yc, yx, rfl, _, _, hy3⟩ := hyl.form
        simp only [List.length_cons] at k3 hcap' hq'
        simp only [Nat.zero_mul, Nat.add_zero] at y0 y1
        by_cases hyl0 : y.l = []
        · have hyn : y.l.length = 0 := by rw [hyl0]; rfl
          refine walk (both g0 (both g1 (both g10 (both hq' (both hfull (both k2 (both y1 hyn))))))) ?_
          have hN : (n - (ob.length : Int)).toNat = n.toNat - ob.length := by omega
          refine Cl.wfK ((cut_ok hQ (n - ob.length) (by omega) (by omega)).mono fun w H1 hn1 ⟨sv', hU1, hs1, hQ1, hB1⟩ hw1 => ?_)
          rw [hN] at hQ1 hB1
          obtain ⟨w', e, hBs, hBo, hBm⟩ := hB1
          injection e with e _; subst e
          have hfpne : ∀ z, slBlock (AV.slice oa ob.length ob.length ox) = some z → ¬ (z = p ∨ slBlock (AV.slice (some (b2, o2)) (y :: r').length cap' ex') = some z) := by
            intro z hz h'
            have := hnew z hz
            rcases h' with h' | h'
            · omega
            · rw [hsb] at h'; injection h' with h'; omega
          have hO1 := hO.upd hU1 hfpne
          have hyne : 0 < y.b.length := List.length_pos_iff.2 (hQ.ne y (by simp))
          have htc := total_cutQ y r' (n.toNat - ob.length)
          refine Oq.append (own := hO1) (new := cellsOfBytes (y.b.take (n.toNat - ob.length))) (m := (y.b.take (n.toNat - ob.length)).length) (by simp (disch := omega) [g10, -getElem?_pos, wrapI64, tdivN, tmodN, ipos, ineg, dpos, dneg, slc_l, slc_h, slc_lh, slc_hm, slc_lhm, slc_0, slcR_some, slcR_none, cutS_ok, cutA_ok, byteAt_ok]; first | done | (repeat' (first | rfl | apply And.intro))) ⟨_, rfl, by simp; first | done | (repeat' (first | rfl | apply And.intro))⟩ rfl (by kernel_rfl) (by kernel_rfl) (hBs.src') (by simp) (cellsOfBytes_one _) (by omega) (by omega) fun v' H3 o3 b3 s3 => ?_
          have kb : Upd (fun z => H.next ≤ z) H1 H3 := Upd.rfl.butOne b3 (fun z hz hl => hnew z hz)
          have hne3 : ∀ z, slBlock v' = some z → H.next ≤ z := by
            intro z hz
            rcases s3 with s3 | s3
            · exact hnew z (by rw [← s3]; exact hz)
            · rw [s3] at hz; injection hz with hz; have := hU.next; have := hU1.next; omega
          have hQ3 : QueueR H3 p sv' ok (cutQ (y :: r') (n.toNat - ob.length)) most := hQ1.keep kb (by omega) (fun ⟨z, e, hz⟩ => by rw [hs1, hsb] at e; injection e with e; omega) (fun z hz => by have := (h.okd z hz).1; omega) (by have := hU.next; have := hU1.next; omega)
          have hU3 : Upd (fun z => z = p ∨ some b = some z) H H3 := (hU.trans hU1 fun z _ hz => by rw [hsb] at hz; exact hz).trans kb fun z hz hz2 => by omega
          rw [bytes_app, ← List.length_append] at o3
          refine walk (both g0 (both g1 g10)) ?_
          refine Roundq.normal _ ?_ ⟨sv', _, v', ob ++ y.b.take (n.toNat - ob.length), by simp [g0], by simp [g1], by simp [g2], by simp [g9], by simp, o3, hne3, hQ3, hs1.trans hsb, hU3, ?_, ?_, b3.2.1 hw1, rfl, ?_⟩
          · rw [List.length_append, List.length_take]; omega
          · rw [List.length_append, List.length_take]; push_cast; omega
          · rw [List.length_append]; omega
          · have e5 : n.toNat - (ob ++ y.b.take (n.toNat - ob.length)).length = n.toNat - ob.length - y.b.length := by rw [List.length_append, List.length_take]; omega
            rw [e5, htk, takeQ_cut (by omega) hyl0, List.append_assoc]
        · have hyn : 0 < y.l.length := List.length_pos_iff.2 hyl0
          refine walk (both g0 (both g1 (both g10 (both hq' (both hfull (both k2 (both y1 hyn))))))) ?_
          cases la with
          | none =>
            have hx0 : x.l = [] := by
              rcases Nat.eq_zero_or_pos x.l.length with h0 | h0
              · exact List.eq_nil_of_length_eq_zero h0
              · obtain ⟨_, _, _, _, _, _, e, _⟩ := hl1.at h0; cases e
            obtain rfl : K = 0 := by rw [hx0] at hK2; simp at hK2; omega
            rw [hx0] at hdone ⊢
            simp only [hx0, List.length_nil] at g9
            refine Wq.regionD [0, 1, 2, 3, 4, 5, 6, 7, 8, 9, 10] (by kernel_rfl) ?_
            refine walk (both g2 (both g9 g10)) ?_
            exact hdone (takeQ_stop hyl0) _ _ (by simpa using List0.nil) (by simpa using List0.nil)
          | some q =>
            obtain ⟨b1, o1⟩ := q
            have hcut := hSl.cut (k := K.toNat) (by omega)
            have hlx5 : lx = none ∨ lx = some 5 := hlx
            refine Wq.regionD [0, 1, 2, 3, 4, 5, 6, 7, 8, 9, 10] (by kernel_rfl) ?_
            refine walk (both g2 (both g9 (both g10 hlx5))) ?_
            refine hdone (takeQ_stop hyl0) _ _ ?_ ?_
            · simpa using hcut.1
            · have e1 : ((x.l.length : Int) - K).toNat = x.l.length - K.toNat := by omega
              have e2 : ((lcap : Int) - K).toNat = lcap - K.toNat := by omega
              rw [e1, e2]
              exact hcut.2
    · refine walk (both g0 (both g1 (both g10 hfull))) ?_
      cases la with
      | none =>
        have hx0 : x.l = [] := by
          rcases Nat.eq_zero_or_pos x.l.length with h0 | h0
          · exact List.eq_nil_of_length_eq_zero h0
          · obtain ⟨_, _, _, _, _, _, e, _⟩ := hl1.at h0; cases e
        obtain rfl : K = 0 := by rw [hx0] at hK2; simp at hK2; omega
        rw [hx0] at hdone ⊢
        simp only [hx0, List.length_nil] at g9
        refine Wq.regionD [0, 1, 2, 3, 4, 5, 6, 7, 8, 9, 10] (by kernel_rfl) ?_
        refine walk (both g2 (both g9 g10)) ?_
        exact hdone (by rw [show n.toNat - ob.length = 0 by omega, takeQ_zero]) _ _ (by simpa using List0.nil) (by simpa using List0.nil)
      | some q =>
        obtain ⟨b1, o1⟩ := q
        have hcut := hSl.cut (k := K.toNat) (by omega)
        have hlx5 : lx = none ∨ lx = some 5 := hlx
        refine Wq.regionD [0, 1, 2, 3, 4, 5, 6, 7, 8, 9, 10] (by kernel_rfl) ?_
        refine walk (both g2 (both g9 (both g10 hlx5))) ?_
        refine hdone (by rw [show n.toNat - ob.length = 0 by omega, takeQ_zero]) _ _ ?_ ?_
        · simpa using hcut.1
        · have e1 : ((x.l.length : Int) - K).toNat = x.l.length - K.toNat := by omega
          have e2 : ((lcap : Int) - K).toNat = lcap - K.toNat := by omega
          rw [e1, e2]
          exact hcut.2
end Go.Abs

/- Chapter 10: Put, walked. -/
namespace Go.Abs
open Go.Proofs
set_option maxRecDepth 100000
set_option linter.unusedVariables false
set_option linter.unusedSimpArgs false

/-- Bytes put to the last part. -/
def lastB (l : List Part) (b : List UInt8) : List Part := match l with
  | [] => []
  | [x] => [⟨x.b ++ b, x.l⟩]
  | x :: r => x :: lastB r b
/-- What Put leaves, how many bytes it takes, and the error. -/
def putQ (most : Int) (ql : List Part) (bs : List UInt8) (ls : List Pass) : List Part × Int × Int :=
  if bs = [] ∨ 4 < ls.length then (ql, 0, 22) else
  if most - total ql = 0 ∨ (ls ≠ [] ∨ ql = []) ∧ 16 ≤ ql.length then (ql, 0, 35) else
  (lastB (if ls ≠ [] ∨ ql = [] then ql ++ [⟨[], ls⟩] else ql) (bs.take (most - total ql).toNat), min bs.length (most - total ql), 0)
theorem lastB_snoc (l : List Part) (x : Part) (b : List UInt8) : lastB (l ++ [x]) b = l ++ [⟨x.b ++ b, x.l⟩] := by
  induction l with
  | nil => rfl
  | cons y l ih =>
    cases l with
    | nil => rfl
    | cons z l => simp only [List.cons_append, lastB] at ih ⊢; rw [ih]

/-- What Put leaves lies in these blocks. -/
def okP (H H' : Heap) (ok ok2 : Nat → Prop) (slv : AV) (b : Nat) : Prop := ok b ∨ ok2 b ∨ (H.next ≤ b ∧ b < H'.next ∧ slBlock slv ≠ some b)
/-- Midway: a part may be empty. -/
structure QueueM (H0 H : Heap) (p : Nat) (slv0 slv : AV) (ok ok2 : Nat → Prop) (ql : List Part) (most t : Int) : Prop where
  upd : Upd (fun b => b = p ∨ slBlock slv0 = some b) H0 H
  blk : slBlock slv = slBlock slv0 ∨ ∃ b, slBlock slv = some b ∧ H0.next ≤ b
  q : H.get p = some (.cells [slv, .int .i64 most, .int .i64 t] 51 true false)
  own : ∃ c, OwnG H 38 2 slv ql.length c ∧ Rows partS H (okP H0 H ok ok2 slv) c ql
theorem Rows.app1 {α : Type} {S : Shape α} {H : Heap} {ok : Nat → Prop} {c d : List AV} {l : List α} {x : α} (h : Rows S H ok c l) (g : S.R H ok d x) : Rows S H ok (c ++ d) (l ++ [x]) := h.app (Rows.one g)

theorem OwnG.lt0 {H : Heap} {elem : TypeId} {s n : Nat} {v : AV} {cs : List AV} (h : OwnG H elem s v n cs) (h0 : 0 < n) : ∀ b, slBlock v = some b → b < H.next := by
  intro b hb
  obtain ⟨a, cap, ex, rfl, _⟩ := h.form
  obtain ⟨b', o, c, rfl, _, _, hlt, _⟩ := h.at h0
  simp [slBlock] at hb; subst hb; exact hlt
theorem total_app (a b : List Part) : total (a ++ b) = total a + total b := by simp [total]

theorem put_ok {H : Heap} {p : Nat} {slv : AV} {ok ok2 : Nat → Prop} {ql : List Part} {most : Int} (h : QueueR H p slv ok ql most) (vb vl : AV) (bs : List UInt8) (ls : List Pass) (hb : bytesS.R H ok2 [vb] bs) (hl : List0 passS H ok2 vl ls) (h2 : ∀ b, ok2 b → okQ H p slv b) (hbs : bs.length ≤ 1000) (hls : ls.length ≤ 1000) :
    Cl Try.prog pr10 9 [.ptr (some (p, 0)), vb, vl] H fun w H' => w = .tuple [.int .i64 (putQ most ql bs ls).2.1, .int .i64 (putQ most ql bs ls).2.2] ∧ ∃ slv', Upd (fun b => b = p ∨ slBlock slv = some b) H H' ∧ (slBlock slv' = slBlock slv ∨ ∃ b, slBlock slv' = some b ∧ H.next ≤ b) ∧
      QueueR H' p slv' (okP H H' ok ok2 slv') (putQ most ql bs ls).1 most := by
  obtain ⟨vb', e, hbS, hbo, hbm⟩ := hb
  injection e with e _; subst e
  obtain ⟨ba, bc, bx, rfl, hbc, hbx⟩ := hbS.form
  obtain ⟨la, lc, lx, rfl, hlc, hlx, hlm⟩ := hl.form
  have hq := h.q
  have hfit := h.fits
  have hmany := h.many
  have hap := h.apart
  obtain ⟨c, ho, hr⟩ := h.own
  obtain ⟨a, cap, ex, rfl, hcap, hex⟩ := ho.form
  have hno : ∀ H' slv', H' = H → slv' = AV.slice a ql.length cap ex → ∃ slv', Upd (fun b => b = p ∨ slBlock (AV.slice a ql.length cap ex) = some b) H H' ∧ (slBlock slv' = slBlock (AV.slice a ql.length cap ex) ∨ ∃ b, slBlock slv' = some b ∧ H.next ≤ b) ∧
      QueueR H' p slv' (okP H H' ok ok2 slv') ql most := by
    rintro H' slv' rfl rfl
    refine ⟨_, Upd.rfl, .inl rfl, h.q, ⟨c, ho, hr.mono fun _ h => .inl h⟩, fun b hb => ?_, h.apart, h.ne, h.many, h.fits, h.lt, h.few⟩
    rcases hb with hb | hb | hb
    · exact h.okd b hb
    · exact h2 b hb
    · omega
  have hbe : bs.length = 0 ↔ bs = [] := List.length_eq_zero_iff
  refine Cl.wf fun hw => ?_
  have hpl := hw.lt hq
  refine Cl.enter Try.func9 rfl rfl Try.ntmps9 (by simp) ?_
  by_cases c1 : bs = []
  · subst c1
    refine walk hq ?_
    exact ⟨by simp [putQ], by simpa [putQ] using hno _ _ rfl rfl⟩
  · have hb0 : 0 < bs.length := List.length_pos_iff.2 c1
    by_cases c2 : 4 < ls.length
    · refine walk (both hq (both c1 c2)) ?_
      exact ⟨by simp [putQ, c2], by simpa [putQ, c2] using hno _ _ rfl rfl⟩
    · refine Wq.seq ?_
      refine walkr none0 ?_
      refine Wq.seq ?_
      refine Wq.seq ?_
      refine walkr (both hq (both c1 c2)) ?_
      refine Wq.seq (Wq.mono (Q := fun z e2 Hx => z = .normal ∧ Hx = H ∧ e2 8 = .bool (decide (ls ≠ [] ∨ ql = [])) ∧ e2 0 = .ptr (some (p, 0)) ∧ e2 1 = .slice ba bs.length bc bx ∧ e2 2 = .slice la ls.length lc lx) ?_ ?_)
      · by_cases c3 : ls = []
        · have c3' : ls.length = 0 := by rw [c3]; rfl
          refine walk (both hq c3') ?_
          refine ⟨rfl, rfl, ?_, by simp, by simp, by simp⟩
          simp [c3]
        · have c3' : 0 < ls.length := List.length_pos_iff.2 c3
          refine walk (both hq c3') ?_
          refine ⟨rfl, rfl, ?_, by simp, by simp, by simp⟩
          simp [c3]
      · rintro z e2 Hx _ ⟨rfl, rfl, g8, g0, g1, g2⟩
        generalize hbg : decide (ls ≠ [] ∨ ql = []) = bg at *
        refine walk (both g0 (both g1 (both g2 g8))) ?_
        refine (room_some h).mono fun w H1 _ ⟨e1, e2⟩ => ?_
        subst e1; subst e2
        by_cases c3 : most - ((total ql : Nat) : Int) = 0
        · refine walk (both g0 (both g1 (both g2 (both g8 c3)))) ?_
          have e3 : putQ most ql bs ls = (ql, 0, 35) := by simp only [putQ]; rw [if_neg (by simp [c1]; omega), if_pos (.inl c3)]
          rw [e3]
          exact ⟨rfl, hno _ _ rfl rfl⟩
        · by_cases c4 : bg = true ∧ 16 ≤ ql.length
          · obtain ⟨rfl, c5⟩ := c4
            refine walk (both g0 (both g1 (both g2 (both g8 (both c3 (both hq c5)))))) ?_
            have e3 : putQ most ql bs ls = (ql, 0, 35) := by simp only [putQ]; rw [if_neg (by simp [c1]; omega), if_pos (.inr ⟨of_decide_eq_true hbg, c5⟩)]
            rw [e3]
            exact ⟨rfl, hno _ _ rfl rfl⟩
          · have hk0 : 0 < min (bs.length : Int) (most - ((total ql : Nat) : Int)) := by omega
            refine walkr none0 ?_
            generalize hk : min (bs.length : Int) (most - ((total ql : Nat) : Int)) = k at *
            refine Wq.seq (Wq.mono (Q := fun z e3 Hx => z = .normal ∧ Hx = H1 ∧ e3 0 = .ptr (some (p, 0)) ∧ e3 1 = .slice ba bs.length bc bx ∧ e3 2 = .slice la ls.length lc lx ∧ e3 8 = .bool bg ∧ e3 9 = .int .i64 k) ?_ ?_)
            · cases hb : bg with
              | true =>
                have c5 : ql.length < 16 := by
                  rcases Nat.lt_or_ge ql.length 16 with h | h
                  · exact h
                  · exact absurd ⟨hb, h⟩ c4
                subst hb
                refine walk (both g0 (both g1 (both g2 (both g8 (both hq c5))))) ?_
                exact ⟨rfl, rfl, by simp [g0], by simp [g1], by simp [g2], by simp [g8], by simp⟩
              | false =>
                subst hb
                refine walk (both g0 (both g1 (both g2 (both g8 hq)))) ?_
                exact ⟨rfl, rfl, by simp [g0], by simp [g1], by simp [g2], by simp [g8], by simp⟩
            rintro z e3 Hx _ ⟨rfl, e, g0, g1, g2, g8, g9⟩
            obtain rfl : H1 = Hx := e.symm
            refine Thenq.normal ?_
            refine Wq.seq (Wq.mono (Q := fun z e3 Hx => z = .normal ∧ (∃ slv1, QueueM H1 Hx p (AV.slice a ql.length cap ex) slv1 ok ok2 (if bg = true then ql ++ [⟨[], ls⟩] else ql) most (total ql : Nat) ∧ slBlock slv1 ≠ some p) ∧ e3 0 = .ptr (some (p, 0)) ∧ e3 1 = .slice ba bs.length bc bx ∧ e3 9 = .int .i64 k) ?_ ?_)
            · cases hb : bg with
              | true =>
                have c5 : ql.length < 16 := by
                  rcases Nat.lt_or_ge ql.length 16 with h | h
                  · exact h
                  · exact absurd ⟨hb, h⟩ c4
                subst hb
                obtain ⟨cl, hlS, hlb, _, hlr⟩ := hl.open
                refine walk (both g0 (both g1 (both g2 (both g8 g9)))) ?_
                refine Wq.regionM [(5, 0), (6, 0), (1, 0), (2, 0), (3, 0), (4, 2), (7, 0), (8, 0), (9, 0), (0, 0), (10, 0), (11, 0), (12, 0)] (by kernel_rfl) ?_
                refine mwalk (both g0 (both g1 (both g2 g8))) ?_
                refine Cl.wfK ((clone28 _ _ cl H1 hlS hlr.all1 (by omega)).mono fun w H2 hn2 hF hw2 => ?_)
                have hq2 := (hF.keep.get hpl).trans hq
                obtain ⟨wa, wx, rfl, hwx⟩ := hF.own.form
                refine mwalk (both g0 (both g1 (both g2 (both g8 (both hq2 (both hq c5)))))) ?_
                have k2 : Keep H1 (H2.push (AObj.cells [AV.slice none 0 0 none, AV.slice wa ls.length ls.length wx] 38 true false)) := hF.keep.push _
                refine Dq.appendG (own := (ho.kept k2)) (new := [AV.slice none 0 0 none, AV.slice wa ls.length ls.length wx]) (q := 1) rfl met_none (by simp (disch := omega) [g0, -getElem?_pos, wrapI64, tdivN, tmodN, ipos, ineg, dpos, dneg, slc_l, slc_h, slc_lh, slc_hm, slc_lhm, slc_0, slcR_some, slcR_none, cutS_ok, cutA_ok, byteAt_ok]; first | done | (repeat' (first | rfl | apply And.intro))) ⟨_, rfl, by simp; first | done | (repeat' (first | rfl | apply And.intro))⟩ rfl (by kernel_rfl) (by kernel_rfl) (by refine ⟨by simp, ?_⟩; simp (disch := omega) [srcCells, cellsAt, g0, -getElem?_pos, wrapI64, tdivN, tmodN, ipos, ineg, dpos, dneg, slc_l, slc_h, slc_lh, slc_hm, slc_lhm, slc_0, slcR_some, slcR_none, cutS_ok, cutA_ok, byteAt_ok]; first | done | rfl) (by simp [g0]) (by simp [g0]) (by omega) (by omega) fun w1 H3 o3 b3 s3 => ?_
                have hn3 := b3.1
                have hs3 : slBlock w1 = slBlock (AV.slice a ql.length cap ex) ∨ slBlock w1 = some (H2.next + 1) := s3
                have hnp : H1.next ≤ H2.next := hF.keep.next
                have hq3 : H3.get p = some (.cells [AV.slice a ql.length cap ex, .int .i64 most, .int .i64 (total ql : Nat)] 51 true false) := by
                  rw [b3.2.2 p (by simp; omega) (fun e => hap e.symm), k2.get hpl]; exact hq
                have hap1 : slBlock w1 ≠ some p := by
                  rcases hs3 with e | e
                  · rw [e]; exact hap
                  · rw [e]; intro e; injection e with e; omega
                obtain ⟨v1, vc1, vx1, rfl, _⟩ := o3.form
                refine mwalk (both g0 (both g1 (both g2 (both g8 hq3)))) ?_
                refine walk g0 ?_
                have u3 : Upd (fun b => b = p ∨ slBlock (AV.slice a ql.length cap ex) = some b) H1 H3 := (k2.mono fun _ _ h => h.elim).butOne b3 fun z hz _ => .inr hz
                generalize hHb : H3.set p _ = Hb
                have gp : Hb.get p = some (.cells [AV.slice v1 (ql.length + 1) vc1 vx1, .int .i64 most, .int .i64 (total ql : Nat)] 51 true false) := by subst hHb; simp
                have u4 : Upd (fun b => b = p ∨ slBlock (AV.slice a ql.length cap ex) = some b) H1 Hb := by
                  subst hHb; exact u3.set _ (by simp at hn3; omega) fun _ => .inl rfl
                have k4 : Upd (fun b => b = p ∨ slBlock (AV.slice a ql.length cap ex) = some b) H2 Hb := by
                  subst hHb; exact ((Upd.rfl.push _).butOne b3 fun z hz _ => .inr hz).set _ (by simp at hn3; omega) fun _ => .inl rfl
                have o4 : OwnG Hb 38 2 (AV.slice v1 (ql.length + 1) vc1 vx1) (ql.length + 1) (c ++ [AV.slice none 0 0 none, AV.slice wa ls.length ls.length wx]) := by
                  subst hHb; exact o3.keep (by simp) fun z hz _ => by rw [Heap.get_set, if_neg (fun e => hap1 (by rw [← e]; exact hz))]
                have hnot : ∀ z, ok z → ¬ (z = p ∨ slBlock (AV.slice a ql.length cap ex) = some z) := fun z hz => okQ.not z (h.okd z hz)
                have hnot2 : ∀ z, ok2 z → ¬ (z = p ∨ slBlock (AV.slice a ql.length cap ex) = some z) := fun z hz => okQ.not z (h2 z hz)
                have hwn : ∀ z, slBlock (AV.slice wa ls.length ls.length wx) = some z → ¬ (z = p ∨ slBlock (AV.slice a ql.length cap ex) = some z) := by
                  intro z hz h'
                  have h1' := hF.new z hz
                  rcases h' with h' | h'
                  · omega
                  · have := h.lt z h'; omega
                refine ⟨rfl, ⟨_, ⟨u4, hs3.elim .inl (fun e => .inr ⟨_, e, by omega⟩), gp, ⟨_, by simpa using o4, ?_⟩⟩, hap1⟩, by simp [g0], by simp [g1], by simp [g9]⟩
                refine ((hr.upd u4 hnot).mono fun _ h => .inl h).app1 (part_mk (x := ⟨[], ls⟩) ⟨_, rfl, Sl.nil, by simp [slBlock], by simp⟩ (List0.mk (c := cl) (hF.own.sl.upd k4 fun z hz _ => hwn z hz) ?_ hlm ((hlr.upd u4 hnot2).mono fun _ h => .inr (.inl h))))
                intro z hz _
                have h1' := hF.new z hz
                have h2' := hF.own.lt z hz
                refine .inr (.inr ⟨h1', by have := k4.next; omega, ?_⟩)
                rcases hs3 with e | e
                · rw [e]; intro e; have := h.lt z e; omega
                · rw [e]; intro e; injection e with e; omega
              | false =>
                subst hb
                refine walk (both g0 (both g1 (both g2 (both g8 (both g9 hq))))) ?_
                exact ⟨rfl, ⟨_, ⟨Upd.rfl, .inl rfl, hq, ⟨c, ho, hr.mono fun _ h => .inl h⟩⟩, hap⟩, by simp [g0], by simp [g1], by simp [g9]⟩
            · rintro z e3 Hx _ ⟨rfl, ⟨slv1, hM, hap1⟩, g0, g1, g9⟩
              refine Thenq.normal ?_
              obtain ⟨cM, hMo, hMr⟩ := hM.own
              have hMq := hM.q
              have hMu := hM.upd
              have hblk := hM.blk
              obtain ⟨l0, x, hql⟩ : ∃ l0 x, (if bg = true then ql ++ [(⟨[], ls⟩ : Part)] else ql) = l0 ++ [x] := by
                cases hb : bg with
                | true => exact ⟨ql, ⟨[], ls⟩, by simp⟩
                | false =>
                  have hne : ql ≠ [] := by
                    rintro rfl
                    rw [hb] at hbg
                    have := of_decide_eq_false hbg
                    simp at this
                  exact ⟨ql.dropLast, ql.getLast hne, by simp [List.dropLast_concat_getLast hne]⟩
              have hput : putQ most ql bs ls = (l0 ++ [⟨x.b ++ bs.take k.toNat, x.l⟩], k, 0) := by
                have e1 : (if ls ≠ [] ∨ ql = [] then ql ++ [(⟨[], ls⟩ : Part)] else ql) = l0 ++ [x] := by
                  rw [← hql, ← hbg]; simp
                have e2 : bs.take (most - (total ql : Nat)).toNat = bs.take k.toNat := by
                  rcases Int.le_total (bs.length : Int) (most - (total ql : Nat)) with h' | h'
                  · rw [List.take_of_length_le (by omega), List.take_of_length_le (by omega)]
                  · congr 1; omega
                simp only [putQ]
                rw [if_neg (by simp [c1]; omega), if_neg, e1, e2, lastB_snoc, hk]
                rintro (h' | ⟨h', h''⟩)
                · exact c3 h'
                · exact c4 ⟨by rw [← hbg]; exact decide_eq_true h', h''⟩
              rw [hput]
              rw [hql] at hMo hMr
              obtain ⟨a1, cap1, ex1, rfl, hcap1, hex1⟩ := hMo.form
              obtain ⟨b1, o1, d1, rfl, _, _, hb1, hb2, hb5, hb3, hb4⟩ := hMo.at (by simp)
              obtain ⟨vb, vl, x0, x1, f0, f1, ⟨vb', e, hS, hok, hmax⟩, f3⟩ := part_at (i := l0.length) (x := x) hMr (by simp) hb4
              injection e with e _; subst e
              have hlen1 : (l0 ++ [x]).length = l0.length + 1 := by simp
              simp only [hlen1] at hb3 hcap1 hMq hb5 hb4 hMo
              have hpb : b1 ≠ p := fun e => hap1 (by rw [e]; rfl)
              have hl0 : l0.length + 1 ≤ 16 := by
                have := congrArg List.length hql
                rw [hlen1] at this
                cases hb : bg with
                | true => rw [hb] at this; simp at this; have : ¬ 16 ≤ ql.length := fun h' => c4 ⟨hb, h'⟩; omega
                | false => rw [hb] at this; simp at this; omega
              have htl : total l0 + x.b.length = total ql := by
                have := congrArg total hql
                rw [total_app] at this
                cases hb : bg with
                | true => rw [hb] at this; simp [total_app, total] at this ⊢; omega
                | false => rw [hb] at this; simp [total] at this ⊢; omega
              have hidx : ((l0.length + 1 : Nat) : Int) - 1 = l0.length := by omega
              refine walk g0 ?_
              refine Wq.regionD [0, 1, 2, 3, 4, 5, 6, 7, 8, 9, 10, 11] (by kernel_rfl) ?_
              refine walk (both g0 (both g1 (both g9 (both hMq (both hb2 (both hidx x0)))))) ?_
              refine Wq.regionD [1, 2, 3, 4, 5, 6, 7, 8, 9, 0, 10, 11, 12] (by kernel_rfl) ?_
              have hk1 : k ≤ bs.length := by omega
              obtain ⟨va, vc, vx, rfl, hvc, hvx⟩ := hS.form
              have hnot2 : ∀ z, ok2 z → ¬ (z = p ∨ slBlock (AV.slice a ql.length cap ex) = some z) := fun z hz => okQ.not z (h2 z hz)
              have hbS2 := hbS.upd hMu fun z hz h0 => hnot2 z (hbo z hz (by omega))
              obtain ⟨b2, o2, _, _, _, _, rfl, _⟩ := hbS.at hb0
              refine walk (both g0 (both g1 (both g9 (both hMq (both hb2 (both hidx (both x0 hbx))))))) ?_
              have hsub := hbS2.sub (k := 0) (m := k.toNat) (cap' := bc) (ex' := bx) (by omega) (by omega) hbx
              simp only [Nat.zero_mul, Nat.add_zero, List.drop_zero, Nat.mul_one, bytes_take] at hsub
              refine Cl.wfK ((concat2 _ _ _ _ _ _ _ _ (OwnSl.mk (n := 2) (cs := [_, _]) (elem := 25) (by simp) (by simp) (by simp)).sl (hS.push _) (hsub.push _) (cellsOfBytes_one _) (cellsOfBytes_one _) (by omega) (by omega)).mono fun w H5 hn5 hF hw5 => ?_)
              have k5 : Keep Hx H5 := (Upd.rfl.push _).then hF.keep
              have hpx : p < Hx.next := by have := hMu.next; omega
              have hq5 := (k5.get hpx).trans hMq
              have hb5' := (k5.get hb1).trans hb2
              obtain ⟨wa, wcap, wx, rfl, _⟩ := hF.own.form
              have hn5' := k5.next
              have hlk : (bs.take k.toNat).length = k.toNat := by rw [List.length_take]; omega
              refine walk (both g0 (both g1 (both g9 (both hq5 (both hb5' (both x0 (both hpb hk1))))))) ?_
              generalize hnv : AV.slice wa (x.b.length + k.toNat) wcap wx = nv at *
              generalize hHb : Heap.set (Heap.set _ _ _) _ _ = Hb
              have hu : Upd (fun z => z = p ∨ slBlock (AV.slice (some (b1, o1)) (l0.length + 1) cap1 ex1) = some z) Hx Hb := by
                subst hHb
                exact ((Upd.of k5).set _ (by omega) fun _ => .inr rfl).set _ (by simp; omega) fun _ => .inl rfl
              have gp : Hb.get p = some (.cells [AV.slice (some (b1, o1)) (l0.length + 1) cap1 ex1, AV.int IntKind.i64 most, AV.int IntKind.i64 ((total ql : Nat) + k)] 51 true false) := by subst hHb; simp
              have gb : Hb.get b1 = some (.cells (d1.set (o1 + l0.length * 2) nv) 38 true false) := by subst hHb; simp [hpb]
              have nb : Hb.next = H5.next := by subst hHb; simp
              have hu1 : Upd (fun z => z = p ∨ slBlock (AV.slice a ql.length cap ex) = some z) H1 Hb := hMu.trans hu fun z hz h' => by
                rcases h' with h' | h'
                · exact .inl h'
                · rcases hblk with e | ⟨z', e, h''⟩
                  · exact .inr (by rw [← e]; exact h')
                  · simp only [slBlock, Option.map_some] at e h'
                    rw [h'] at e; injection e with e; omega
              have hokn : ∀ z, okP H1 Hx ok ok2 (AV.slice (some (b1, o1)) (l0 ++ [x]).length cap1 ex1) z → ¬ (z = p ∨ slBlock (AV.slice (some (b1, o1)) (l0.length + 1) cap1 ex1) = some z) := by
                rintro z hz h'
                have e1 : slBlock (AV.slice (some (b1, o1)) (l0.length + 1) cap1 ex1) = some b1 := rfl
                have e2 : slBlock (AV.slice (some (b1, o1)) (l0 ++ [x]).length cap1 ex1) = some b1 := rfl
                rw [e1] at h'
                have hold : ∀ z, okQ H1 p (AV.slice a ql.length cap ex) z → ¬ (z = p ∨ some b1 = some z) := by
                  rintro z ⟨q1, q2, q3⟩ (h' | h')
                  · exact q2 h'
                  · rcases hblk with e | ⟨z', e, h''⟩
                    · rw [e2] at e; rw [← e] at q3; exact q3 h'
                    · rw [e2] at e; injection e with e; injection h' with h'; omega
                rcases hz with hz | hz | ⟨q1, q2, q3⟩
                · exact hold z (h.okd z hz) h'
                · exact hold z (h2 z hz) h'
                · rcases h' with h' | h'
                  · omega
                  · rw [e2] at q3; exact q3 h'
              have hmono : ∀ z, okP H1 Hx ok ok2 (AV.slice (some (b1, o1)) (l0 ++ [x]).length cap1 ex1) z → okP H1 Hb ok ok2 (AV.slice (some (b1, o1)) (l0.length + 1) cap1 ex1) z := by
                rintro z (hz | hz | ⟨q1, q2, q3⟩)
                · exact .inl hz
                · exact .inr (.inl hz)
                · exact .inr (.inr ⟨q1, by omega, q3⟩)
              have hset : ((d1.set (o1 + l0.length * 2) nv).drop o1).take ((l0.length + 1) * 2) = cM.set (l0.length * 2) nv := set_sub (i := l0.length * 2) (v := nv) hb4 (by omega)
              have hR := OwnG.refill (H' := Hb) (elem := 38) (s := 2) (n := l0.length + 1) (cap := cap1) (b := b1) (o := o1) (ex := ex1) hcap1 hex1 (by omega) gb (by rw [List.length_set]; omega)
              rw [hset] at hR
              have hSb : bytesS.R Hb (okP H1 Hb ok ok2 (AV.slice (some (b1, o1)) (l0.length + 1) cap1 ex1)) [nv] (x.b ++ bs.take k.toNat) := by
                have hnew : ∀ z, slBlock nv = some z → Hx.next + 1 ≤ z ∧ z < H5.next := fun z hz => by
                  have q := hF.new z (by rw [← hz])
                  simp at q
                  exact ⟨q, hF.own.lt0 (by omega) z hz⟩
                refine ⟨nv, rfl, ?_, fun z hz _ => .inr (.inr ⟨by have := hMu.next; have := hnew z hz; omega, by have := hnew z hz; omega, ?_⟩), by rw [List.length_append, hlk]; unfold maxLen; omega⟩
                · have := hF.own.sl
                  rw [bytes_app] at this
                  rw [List.length_append, hlk]
                  have u5 : Upd (fun z => z = p ∨ z = b1) H5 Hb := by
                    subst hHb
                    exact (Upd.rfl.set _ (by omega) fun _ => .inr rfl).set _ (by simp; omega) fun _ => .inl rfl
                  exact this.upd u5 fun z hz _ => by have := hnew z hz; omega
                · intro e; simp [slBlock] at e; have := hnew z hz; omega
              have hP : partS.R Hb (okP H1 Hb ok ok2 (AV.slice (some (b1, o1)) (l0.length + 1) cap1 ex1)) (((cM.drop (l0.length * partS.s)).take partS.s).set 0 nv) ⟨x.b ++ bs.take k.toNat, x.l⟩ := by
                rw [partS_s, f0]
                exact part_mk hSb ((sliceS passS).mono ((sliceS passS).upd f3 hu hokn) hmono)
              have hrr := ((hMr.upd hu hokn).mono hmono).put (i := l0.length) (k := 0) (by simp) (by decide) hP
              simp only [partS_s, Nat.add_zero, List.set_append_right _ _ (Nat.le_refl _), Nat.sub_self, List.set_cons_zero] at hrr
              have htn : total (l0 ++ [⟨x.b ++ bs.take k.toNat, x.l⟩]) = total ql + k.toNat := by
                rw [total_app, ← htl]
                simp only [total, List.map_cons, List.map_nil, List.sum_cons, List.sum_nil, List.length_append, hlk]
                omega
              refine ⟨by simp, AV.slice (some (b1, o1)) (l0.length + 1) cap1 ex1, hu1, hblk, ⟨?_, ⟨_, by simpa using hR, hrr⟩, ?_, by simpa [slBlock] using hpb, ?_, by simp; omega, ?_, ?_, ?_⟩⟩
              · rw [gp, htn, show ((total ql + k.toNat : Nat) : Int) = (total ql : Nat) + k by omega]
              · rintro z (hz | hz | ⟨q1, q2, q3⟩)
                · exact okQ.mono (by have := hMu.next; omega) hblk z (h.okd z hz)
                · exact okQ.mono (by have := hMu.next; omega) hblk z (h2 z hz)
                · exact ⟨q2, by omega, q3⟩
              · intro y hy
                simp only [List.mem_append, List.mem_singleton] at hy
                rcases hy with hy | rfl
                · refine h.ne y ?_
                  cases hb : bg with
                  | true =>
                    rw [hb, if_pos rfl] at hql
                    rw [List.append_inj_left' hql rfl]; exact hy
                  | false =>
                    rw [hb, if_neg (by decide)] at hql
                    rw [hql]; simp [hy]
                · exact List.length_pos_iff.1 (by simp; omega)
              · rw [htn]; omega
              · intro z hz; simp [slBlock] at hz; omega
              · have hfew : ∀ y ∈ l0 ++ [x], y.l.length ≤ 4 := by
                  rw [← hql]
                  cases hb : bg with
                  | true =>
                    rw [if_pos rfl]
                    intro y hy
                    rcases List.mem_append.1 hy with hy | hy
                    · exact h.few y hy
                    · rw [List.mem_singleton.1 hy]; simp; omega
                  | false => rw [if_neg (by decide)]; exact h.few
                intro y hy
                rcases List.mem_append.1 hy with hy | hy
                · exact hfew y (by simp [hy])
                · rw [List.mem_singleton.1 hy]; exact hfew x (by simp)
end Go.Abs

/- Chapter 10: the reference's readings, walked; and what makes all that is passed one list. -/
namespace Go.Abs
open Go.Proofs
set_option maxRecDepth 100000
set_option linter.unusedVariables false
set_option linter.unusedSimpArgs false

section
variable {α : Type} {S : Shape α} {H H' : Heap} {ok ok' fp : Nat → Prop} {v : AV} {l : List α}
theorem List0.kept (h : List0 S H ok v l) (k : Keep H H') : List0 S H' ok v l := (sliceS S).kept h k
theorem List0.upd (h : List0 S H ok v l) (u : Upd fp H H') (hd : ∀ b, ok b → ¬ fp b) : List0 S H' ok v l := (sliceS S).upd h u hd
theorem List0.mono (h : List0 S H ok v l) (hd : ∀ b, ok b → ok' b) : List0 S H ok' v l := (sliceS S).mono h hd
end
theorem get_lt {α : Type} {l : List α} {i : Nat} (h : i < l.length) : ∃ x, l[i]? = some x := ⟨l[i], by simp [h]⟩
theorem take_succ_eq {α : Type} {x y : List α} {i : Nat} {a : α} (hx : x[i]? = some a) (hy : y[i]? = some a) (h : x.take i = y.take i) : x.take (i + 1) = y.take (i + 1) := by
  rw [List.take_add_one, List.take_add_one, hx, hy, h]
theorem ne_of_get {α : Type} {x y : List α} {i : Nat} {a b : α} (hx : x[i]? = some a) (hy : y[i]? = some b) (h : a ≠ b) : x ≠ y := by
  rintro rfl
  rw [hx] at hy; injection hy with hy; exact h hy
theorem eq_of_take {α : Type} {x y : List α} {i : Nat} (hl : x.length = y.length) (hi : x.length ≤ i) (h : x.take i = y.take i) : x = y := by
  rwa [List.take_of_length_le hi, List.take_of_length_le (by omega)] at h

theorem nums_ok {H : Heap} {ok1 ok2 : Nat → Prop} {va vb : AV} {x y : List Int} (h1 : List0 (intS .i64) H ok1 va x) (h2 : List0 (intS .i64) H ok2 vb y) :
    Cl Try.prog pr10 30 [va, vb] H fun v H' => (∃ t, v = .bool t ∧ (t = true ↔ x = y)) ∧ H' = H := by
  obtain ⟨a1, c1, x1, rfl, k1, m1, n1⟩ := h1.form
  obtain ⟨a2, c2, x2, rfl, k2, m2, n2⟩ := h2.form
  unfold maxLen at n1 n2
  refine Cl.enter Try.func30 rfl rfl Try.ntmps30 (by simp) ?_
  by_cases hl : x.length = y.length
  · refine walk hl ?_
    refine Wq.loop (fun m e H' => ∃ i, i ≤ x.length ∧ m = x.length - i ∧ H' = H ∧ e 0 = .slice a1 x.length c1 x1 ∧ e 1 = .slice a2 y.length c2 x2 ∧ e 5 = .int .i64 i ∧ x.take i = y.take i) x.length ?_ ?_
    · exact ⟨0, by omega, by omega, rfl, by simp, by simp, by simp, by simp⟩
    · rintro m e H' ⟨i, hi, rfl, rfl, g0, g1, g5, ht⟩
      by_cases hlt : i < x.length
      · obtain ⟨p, hp⟩ := get_lt hlt
        obtain ⟨q, hq⟩ := get_lt (l := y) (show i < y.length by omega)
        obtain ⟨b1, o1, d1, t1, w1, mk1, cs1, rfl, _, hb1, hg1, hf1, hd1, rfl, hw1⟩ := h1.at hp
        obtain ⟨b2, o2, d2, t2, w2, mk2, cs2, rfl, _, hb2, hg2, hf2, hd2, rfl, hw2⟩ := h2.at hq
        have r1 : d1[o1 + i * 1]? = some (.int .i64 p) := by have := get_of_take (j := 0) hd1 (by decide); simpa using this
        have r2 : d2[o2 + i * 1]? = some (.int .i64 q) := by have := get_of_take (j := 0) hd2 (by decide); simpa using this
        simp only [intS_s, Nat.mul_one] at r1 r2 hf1 hf2
        refine walk (both g0 (both g1 (both g5 (both hlt hl)))) ?_
        refine Wq.regionD [0, 1, 2, 3, 4, 5, 6, 7, 8] (by kernel_rfl) ?_
        by_cases hpq : p = q
        · subst hpq
          refine walk (both g0 (both g1 (both g5 (both hlt (both hl (both hg1 (both hg2 (both r1 r2)))))))) ?_
          exact Roundq.normal (x.length - (i + 1)) (by omega) ⟨i + 1, by omega, rfl, rfl, by simp [g0], by simp [g1], by simp, take_succ_eq hp hq ht⟩
        · refine walk (both g0 (both g1 (both g5 (both hlt (both hl (both hg1 (both hg2 (both r1 (both r2 hpq))))))))) ?_
          exact ⟨⟨false, rfl, by simpa using ne_of_get hp hq hpq⟩, rfl⟩
      · refine walk (both g0 (both g1 (both g5 (both hlt hl)))) ?_
        exact ⟨⟨true, rfl, by simpa using eq_of_take hl (by omega) ht⟩, rfl⟩
  · refine walk hl ?_
    exact ⟨⟨false, rfl, by simpa using fun e => hl (by rw [e])⟩, rfl⟩

theorem sameL_ok {H : Heap} {ok1 ok2 : Nat → Prop} {va vb : AV} {p q : Bool} {x y : List Int} (h1 : List0 (intS .i64) H ok1 va x) (h2 : List0 (intS .i64) H ok2 vb y) :
    Cl Try.prog pr10 26 [.agg [.bool p, va], .agg [.bool q, vb]] H fun v H' => (∃ t, v = .bool t ∧ (t = true ↔ p = q ∧ x = y)) ∧ Keep H H' := by
  obtain ⟨a1, c1, x1, rfl, k1, m1, n1⟩ := h1.form
  obtain ⟨a2, c2, x2, rfl, k2, m2, n2⟩ := h2.form
  have k : Keep H ((H.push (.cells [.bool p, .slice a1 x.length c1 x1] 58 true false)).push (.cells [.bool q, .slice a2 y.length c2 x2] 58 true false)) := (Upd.rfl.push _).push _
  refine Cl.enter Try.func26 rfl rfl Try.ntmps26 (by simp) ?_
  by_cases hpq : p = q
  · subst hpq
    refine walk none0 ?_
    refine (nums_ok (h1.kept k) (h2.kept k)).mono fun v H' hn ⟨⟨t, e, ht⟩, e2⟩ => ?_
    subst e; subst e2
    refine walk none0 ?_
    exact ⟨⟨t, rfl, by simpa using ht⟩, k⟩
  · have hpq' : (p == q) = false := by simpa using hpq
    refine walk hpq' ?_
    exact ⟨⟨false, rfl, by simp [hpq]⟩, k⟩

theorem Pass.ext' {p q : Pass} (h1 : p.file = q.file) (h2 : p.rights = q.rights) (h3 : p.fcn = q.fcn) (h4 : p.all = q.all ∧ p.l = q.l) : p = q := by
  cases p; cases q; simp_all
theorem given_ok {H : Heap} {ok1 ok2 : Nat → Prop} {va vb : AV} {x y : List Pass} (h1 : List0 passS H ok1 va x) (h2 : List0 passS H ok2 vb y) :
    Cl Try.prog pr10 14 [va, vb] H fun v H' => (∃ t, v = .bool t ∧ (t = true ↔ x = y)) ∧ Keep H H' := by
  obtain ⟨a1, c1, x1, rfl, k1, m1, n1⟩ := h1.form
  obtain ⟨a2, c2, x2, rfl, k2, m2, n2⟩ := h2.form
  unfold maxLen at n1 n2
  refine Cl.enter Try.func14 rfl rfl Try.ntmps14 (by simp) ?_
  by_cases hl : x.length = y.length
  · refine walk hl ?_
    refine Wq.loop (fun m e H' => ∃ i, i ≤ x.length ∧ m = x.length - i ∧ Keep H H' ∧ e 0 = .slice a1 x.length c1 x1 ∧ e 1 = .slice a2 y.length c2 x2 ∧ e 5 = .int .i64 i ∧ x.take i = y.take i) x.length ?_ ?_
    · exact ⟨0, by omega, by omega, Upd.rfl, by simp, by simp, by simp, by simp⟩
    · rintro m e H' ⟨i, hi, rfl, hk, g0, g1, g5, ht⟩
      by_cases hlt : i < x.length
      · obtain ⟨p, hp⟩ := get_lt hlt
        obtain ⟨q, hq⟩ := get_lt (l := y) (show i < y.length by omega)
        obtain ⟨b1, o1, d1, t1, w1, mk1, cs1, rfl, _, hb1, hg1, hf1, hd1, hr1⟩ := (h1.kept hk).at hp
        obtain ⟨b2, o2, d2, t2, w2, mk2, cs2, rfl, _, hb2, hg2, hf2, hd2, hr2⟩ := (h2.kept hk).at hq
        obtain ⟨v1, rfl, hv1⟩ := pass_open hr1
        obtain ⟨v2, rfl, hv2⟩ := pass_open hr2
        have r10 : d1[o1 + i * 5]? = some (.int .i64 p.file) := by have := get_of_take (j := 0) hd1 (by decide); simpa using this
        have r11 : d1[o1 + i * 5 + 1]? = some (.int .u32 p.rights) := by have := get_of_take (j := 1) hd1 (by decide); simpa using this
        have r14 : d1[o1 + i * 5 + 4]? = some (.int .i64 p.fcn) := by have := get_of_take (j := 4) hd1 (by decide); simpa using this
        have r12 : (d1.drop (o1 + i * 5 + 2)).take 2 = [.bool p.all, v1] := by have := sub_take (i := 2) (k := 2) hd1 (by decide); simpa using this
        have r20 : d2[o2 + i * 5]? = some (.int .i64 q.file) := by have := get_of_take (j := 0) hd2 (by decide); simpa using this
        have r21 : d2[o2 + i * 5 + 1]? = some (.int .u32 q.rights) := by have := get_of_take (j := 1) hd2 (by decide); simpa using this
        have r24 : d2[o2 + i * 5 + 4]? = some (.int .i64 q.fcn) := by have := get_of_take (j := 4) hd2 (by decide); simpa using this
        have r22 : (d2.drop (o2 + i * 5 + 2)).take 2 = [.bool q.all, v2] := by have := sub_take (i := 2) (k := 2) hd2 (by decide); simpa using this
        simp only [passS_s] at hf1 hf2
        refine walk (both g0 (both g1 (both g5 (both hlt hl)))) ?_
        refine Wq.regionD [0, 1, 2, 3, 4, 5, 6, 7, 8, 9, 10, 11, 12, 13, 14, 15, 16, 17, 18, 19, 20, 21, 22, 23, 24, 25, 26, 27, 28, 29, 30, 31, 32, 33, 34, 35, 36, 37, 38, 39, 40, 41, 42, 43, 44, 45, 46, 47, 48, 49, 50] (by kernel_rfl) ?_
        have hno : p ≠ q → (∃ t, AV.bool false = AV.bool t ∧ (t = true ↔ x = y)) ∧ Keep H H' := fun h => ⟨⟨false, rfl, by simpa using ne_of_get hp hq h⟩, hk⟩
        by_cases e1 : p.file = q.file
        · by_cases e2 : p.rights = q.rights
          · by_cases e3 : p.fcn = q.fcn
            · refine walk (both g0 (both g1 (both g5 (both hlt (both hl (both hg1 (both hg2 (both r10 (both r11 (both r14 (both r12 (both r20 (both r21 (both r24 (both r22 (both e1 (both e2 e3))))))))))))))))) ?_
              refine (sameL_ok hv1 hv2).mono fun w H1 hn ⟨⟨t, et, htt⟩, hk1⟩ => ?_
              subst et
              cases t with
              | true =>
                have e4 := htt.1 rfl
                refine walk (both g0 (both g1 g5)) ?_
                exact Roundq.normal (x.length - (i + 1)) (by omega) ⟨i + 1, by omega, rfl, hk.then hk1, by simp [g0], by simp [g1], by simp, take_succ_eq hp (by rw [hq, Pass.ext' e1 e2 e3 e4]) ht⟩
              | false =>
                refine walk g0 ?_
                exact ⟨(hno fun e => by have := htt.2 ⟨by rw [e], by rw [e]⟩; cases this).1, hk.then hk1⟩
            · refine walk (both g0 (both g1 (both g5 (both hlt (both hl (both hg1 (both hg2 (both r10 (both r11 (both r14 (both r20 (both r21 (both r24 (both e1 (both e2 e3))))))))))))))) ?_
              exact hno fun e => e3 (by rw [e])
          · refine walk (both g0 (both g1 (both g5 (both hlt (both hl (both hg1 (both hg2 (both r10 (both r11 (both r20 (both r21 (both e1 e2)))))))))))) ?_
            exact hno fun e => e2 (by rw [e])
        · refine walk (both g0 (both g1 (both g5 (both hlt (both hl (both hg1 (both hg2 (both r10 (both r20 e1))))))))) ?_
          exact hno fun e => e1 (by rw [e])
      · refine walk (both g0 (both g1 (both g5 (both hlt hl)))) ?_
        exact ⟨⟨true, rfl, by simpa using eq_of_take hl (by omega) ht⟩, hk⟩
  · refine walk hl ?_
    exact ⟨⟨false, rfl, by simpa using fun e => hl (by rw [e])⟩, Upd.rfl⟩

theorem total_take (l : List Part) {i : Nat} {x : Part} (h : l[i]? = some x) : total (l.take (i + 1)) = total (l.take i) + x.b.length := by
  rw [List.take_add_one, h, total_app]; simp [total]
theorem total_le (l : List Part) (i : Nat) : total (l.take i) ≤ total l := by
  have := total_app (l.take i) (l.drop i)
  rw [List.take_append_drop] at this; omega
theorem lenP_ok {H : Heap} {ok : Nat → Prop} {v : AV} {l : List Part} (h : List0 partS H ok v l) (ht : total l ≤ 2 ^ 60) :
    Cl Try.prog pr10 19 [v] H fun w H' => w = .int .i64 (total l : Nat) ∧ H' = H := by
  obtain ⟨a, c, x, rfl, k1, m1, n1⟩ := h.form
  unfold maxLen at n1
  refine Cl.enter Try.func19 rfl rfl Try.ntmps19 (by simp) ?_
  refine walk none0 ?_
  refine Wq.loop (fun m e H' => ∃ i, i ≤ l.length ∧ m = l.length - i ∧ H' = H ∧ e 0 = .slice a l.length c x ∧ e 3 = .int .i64 (total (l.take i) : Nat) ∧ e 4 = .int .i64 i) l.length ?_ ?_
  · exact ⟨0, by omega, by omega, rfl, by simp, by simp [total], by simp⟩
  · rintro m e H' ⟨i, hi, rfl, rfl, g0, g3, g4⟩
    by_cases hlt : i < l.length
    · obtain ⟨p, hp⟩ := get_lt hlt
      obtain ⟨b1, o1, d1, t1, w1, mk1, cs1, rfl, _, hb1, hg1, hf1, hd1, hr1⟩ := h.at hp
      obtain ⟨vb, vl, rfl, ⟨vb', e1, hS, hbo, hbm⟩, hl⟩ := part_open hr1
      injection e1 with e1 _; subst e1
      obtain ⟨ba, bc, bx, rfl, _⟩ := hS.form
      have r0 : d1[o1 + i * 2]? = some (.slice ba p.b.length bc bx) := by have := get_of_take (j := 0) hd1 (by decide); simpa using this
      have h1 := total_take l hp
      have h2 := total_le l (i + 1)
      simp only [partS_s] at hf1
      refine walk (both g0 (both g3 (both g4 (both hlt (both hg1 r0))))) ?_
      refine Roundq.normal (l.length - (i + 1)) (by omega) ⟨i + 1, by omega, rfl, rfl, by simp [g0], ?_, by simp⟩
      simp [h1]
    · refine walk (both g0 (both g3 (both g4 hlt))) ?_
      rw [List.take_of_length_le (by omega)]
      exact ⟨rfl, rfl⟩
end Go.Abs

/- Chapter 10: lists of what is passed, and of parts, made: All, Clear, Dump, passed; and parts compared. -/
namespace Go.Abs
open Go.Proofs
set_option maxRecDepth 100000
set_option linter.unusedVariables false
set_option linter.unusedSimpArgs false

def allP (l : List Part) : List Pass := l.flatMap (·.l)
theorem allP_take (l : List Part) {i : Nat} {x : Part} (h : l[i]? = some x) : allP (l.take (i + 1)) = allP (l.take i) ++ x.l := by
  rw [List.take_add_one, h]; simp [allP]
theorem allP_few {l : List Part} {n : Nat} (h : ∀ x ∈ l, x.l.length ≤ n) : (allP l).length ≤ l.length * n := by
  induction l with
  | nil => simp [allP]
  | cons x l ih =>
    have h1 := h x (by simp)
    have h2 := ih fun y hy => h y (by simp [hy])
    simp only [allP, List.flatMap_cons, List.length_append, List.length_cons, Nat.add_mul] at h2 ⊢
    omega

theorem conv_ne {P : Program} {H : Heap} {s t : TypeId} {v : AV} {bs : List UInt8} (h1 : bytesT P s = true) (h2 : isStrT P t = true) (h : Sl H 1 v bs.length (cellsOfBytes bs)) (hb : bs ≠ []) : convR P s t (some v) H = some (.str bs, H) :=
  conv_sl h1 h2 h fun b o n c x e => by
    obtain ⟨a, cap, ex, e2, _⟩ := h.form
    subst e2
    injection e with e1 e2 _ _
    subst e1; subst e2
    obtain ⟨b', o', c', t', w', m', e3, q1, q2, q3, _⟩ := h.at (List.length_pos_iff.2 hb)
    simp only [Option.some.injEq, Prod.mk.injEq] at e3
    obtain ⟨rfl, rfl⟩ := e3
    exact ⟨q1, c', t', w', m', q2, by omega⟩
theorem sameP_ok {H : Heap} {ok1 ok2 : Nat → Prop} {va vb : AV} {x y : List Part} (h1 : List0 partS H ok1 va x) (h2 : List0 partS H ok2 vb y) (hx : ∀ p ∈ x, p.b ≠ []) (hy : ∀ p ∈ y, p.b ≠ []) :
    Cl Try.prog pr10 17 [va, vb] H fun v H' => (∃ t, v = .bool t ∧ (t = true ↔ x = y)) ∧ Keep H H' := by
  obtain ⟨a1, c1, x1, rfl, k1, m1, n1⟩ := h1.form
  obtain ⟨a2, c2, x2, rfl, k2, m2, n2⟩ := h2.form
  unfold maxLen at n1 n2
  refine Cl.enter Try.func17 rfl rfl Try.ntmps17 (by simp) ?_
  by_cases hl : x.length = y.length
  · refine walk hl ?_
    refine Wq.loop (fun m e H' => ∃ i, i ≤ x.length ∧ m = x.length - i ∧ Keep H H' ∧ e 0 = .slice a1 x.length c1 x1 ∧ e 1 = .slice a2 y.length c2 x2 ∧ e 5 = .int .i64 i ∧ x.take i = y.take i) x.length ?_ ?_
    · exact ⟨0, by omega, by omega, Upd.rfl, by simp, by simp, by simp, by simp⟩
    · rintro m e H' ⟨i, hi, rfl, hk, g0, g1, g5, ht⟩
      by_cases hlt : i < x.length
      · obtain ⟨p, hp⟩ := get_lt hlt
        obtain ⟨q, hq⟩ := get_lt (l := y) (show i < y.length by omega)
        obtain ⟨b1, o1, d1, t1, w1, mk1, cs1, rfl, _, hb1, hg1, hf1, hd1, hr1⟩ := (h1.kept hk).at hp
        obtain ⟨b2, o2, d2, t2, w2, mk2, cs2, rfl, _, hb2, hg2, hf2, hd2, hr2⟩ := (h2.kept hk).at hq
        obtain ⟨v1, u1, rfl, ⟨v1', e1, s1, _, _⟩, q1⟩ := part_open hr1
        obtain ⟨v2, u2, rfl, ⟨v2', e2, s2, _, _⟩, q2⟩ := part_open hr2
        injection e1 with e1 _; subst e1
        injection e2 with e2 _; subst e2
        have r10 : d1[o1 + i * 2]? = some v1 := by have := get_of_take (j := 0) hd1 (by decide); simpa using this
        have r11 : d1[o1 + i * 2 + 1]? = some u1 := by have := get_of_take (j := 1) hd1 (by decide); simpa using this
        have r20 : d2[o2 + i * 2]? = some v2 := by have := get_of_take (j := 0) hd2 (by decide); simpa using this
        have r21 : d2[o2 + i * 2 + 1]? = some u2 := by have := get_of_take (j := 1) hd2 (by decide); simpa using this
        simp only [partS_s] at hf1 hf2
        have v1c : convR Try.prog 25 9 (some v1) H' = some (.str p.b, H') := conv_ne (by simp) (by simp) s1 (hx p (List.mem_of_getElem? hp))
        have v2c : convR Try.prog 25 9 (some v2) H' = some (.str q.b, H') := conv_ne (by simp) (by simp) s2 (hy q (List.mem_of_getElem? hq))
        refine walk (both g0 (both g1 (both g5 (both hlt hl)))) ?_
        refine Wq.regionD [0, 1, 2, 3, 4, 5, 6, 7, 8, 9, 10, 11, 12, 13, 14, 15, 16, 17, 18, 19, 20, 21, 22, 23, 24, 25, 26] (by kernel_rfl) ?_
        have hno : p ≠ q → (∃ t, AV.bool false = AV.bool t ∧ (t = true ↔ x = y)) ∧ Keep H H' := fun h => ⟨⟨false, rfl, by simpa using ne_of_get hp hq h⟩, hk⟩
        by_cases e1 : p.b = q.b
        · refine walk (both g0 (both g1 (both g5 (both hlt (both hl (both hg1 (both hg2 (both r10 (both r11 (both r20 (both r21 (both v1c (both v2c e1))))))))))))) ?_
          refine (given_ok q1 q2).mono fun w H1 hn ⟨⟨t, et, htt⟩, hk1⟩ => ?_
          subst et
          cases t with
          | true =>
            have e4 := htt.1 rfl
            refine walk (both g0 (both g1 g5)) ?_
            exact Roundq.normal (x.length - (i + 1)) (by omega) ⟨i + 1, by omega, rfl, hk.then hk1, by simp [g0], by simp [g1], by simp, take_succ_eq hp (by rw [hq]; congr 1; cases p; cases q; simp_all) ht⟩
          | false =>
            refine walk g0 ?_
            exact ⟨(hno fun e => by have := htt.2 (by rw [e]); cases this).1, hk.then hk1⟩
        · refine walk (both g0 (both g1 (both g5 (both hlt (both hl (both hg1 (both hg2 (both r10 (both r20 (both v1c (both v2c e1))))))))))) ?_
          exact hno fun e => e1 (by rw [e])
      · refine walk (both g0 (both g1 (both g5 (both hlt hl)))) ?_
        exact ⟨⟨true, rfl, by simpa using eq_of_take hl (by omega) ht⟩, hk⟩
  · refine walk hl ?_
    exact ⟨⟨false, rfl, by simpa using fun e => hl (by rw [e])⟩, Upd.rfl⟩

/-- What is passed with all parts. -/
theorem all_ok {H : Heap} {ok : Nat → Prop} {v : AV} {l : List Part} (h : List0 partS H ok v l) (hm : l.length ≤ 100) (hf : ∀ x ∈ l, x.l.length ≤ 4) (hok : ∀ b, ok b → b < H.next) :
    Cl Try.prog pr10 15 [v] H fun w H' => ∃ c, FreshG H H' 60 5 w (allP l).length c ∧ Rows passS H' ok c (allP l) := by
  obtain ⟨a, c, x, rfl, k1, m1, n1⟩ := h.form
  refine Cl.enter Try.func15 rfl rfl Try.ntmps15 (by simp) ?_
  refine walk none0 ?_
  refine Wq.loop (fun m e H' => ∃ i w c0, i ≤ l.length ∧ m = l.length - i ∧ e 0 = .slice a l.length c x ∧ e 3 = w ∧ e 4 = .int .i64 i ∧ FreshG H H' 60 5 w (allP (l.take i)).length c0 ∧ Rows passS H' ok c0 (allP (l.take i))) l.length ?_ ?_
  · exact ⟨0, _, [], by omega, by omega, by simp, rfl, by simp, by simpa [allP] using FreshG.made (Upd.rfl.push _) (by simp) (Nat.le_refl _) (by simp) (by simp), by simpa [allP] using Rows.nil⟩
  · rintro m e H' ⟨i, w, c0, hi, rfl, g0, g3, g4, hF, hR⟩
    by_cases hlt : i < l.length
    · obtain ⟨p, hp⟩ := get_lt hlt
      obtain ⟨b1, o1, d1, t1, w1, mk1, cs1, rfl, _, hb1, hg1, hf1, hd1, hr1⟩ := (h.kept hF.keep).at hp
      obtain ⟨vb, vl, rfl, _, hl⟩ := part_open hr1
      obtain ⟨cl, hS, _, _, hrl⟩ := hl.open
      obtain ⟨la, lc, lx, rfl, _⟩ := hS.form
      have r1 : d1[o1 + i * 2 + 1]? = some (.slice la p.l.length lc lx) := by have := get_of_take (j := 1) hd1 (by decide); simpa using this
      have hp4 := hf p (List.mem_of_getElem? hp)
      have hal := allP_few (l := l.take i) (n := 4) fun x hx => hf x (List.mem_of_mem_take hx)
      rw [List.length_take] at hal
      simp only [partS_s] at hf1
      obtain ⟨wa, wc, wx, rfl, _⟩ := hF.own.form
      refine walk (both g0 (both g3 (both g4 (both hlt (both hg1 r1))))) ?_
      refine Oq.appendG (own := hF.own) (new := cl) (m := p.l.length) (by simp (disch := omega) [g0, -getElem?_pos, wrapI64, tdivN, tmodN, ipos, ineg, dpos, dneg, slc_l, slc_h, slc_lh, slc_hm, slc_lhm, slc_0, slcR_some, slcR_none, cutS_ok, cutA_ok, byteAt_ok]; first | done | (repeat' (first | rfl | apply And.intro))) ⟨_, rfl, by simp; first | done | (repeat' (first | rfl | apply And.intro))⟩ rfl (by kernel_rfl) (by kernel_rfl) (hS.src') hS.len hrl.all1 (by omega) (by omega) fun w1 H1 o1 b1 s1 => ?_
      refine walk (both g0 g4) ?_
      have kb : Upd (fun z => H.next ≤ z) H' H1 := Upd.rfl.butOne b1 fun z hz _ => hF.new z hz
      refine Roundq.normal (l.length - (i + 1)) (by omega) ⟨i + 1, w1, c0 ++ cl, by omega, rfl, by simp [g0], by simp, by simp, ?_, ?_⟩
      · rw [allP_take l hp, List.length_append]; exact hF.app o1 b1 s1
      · rw [allP_take l hp]
        exact (hR.upd kb fun z hz hz2 => by have := hok z hz; omega).app (hrl.upd kb fun z hz hz2 => by have := hok z hz; omega)
    · refine walk (both g0 (both g3 (both g4 hlt))) ?_
      rw [List.take_of_length_le (by omega)] at hF hR
      exact ⟨_, hF, hR⟩
end Go.Abs

/- Chapter 10: Clear, Dump, walked. -/
namespace Go.Abs
open Go.Proofs
set_option maxRecDepth 100000
set_option linter.unusedVariables false
set_option linter.unusedSimpArgs false

/-- Blocks made since, but a slice's own. -/
def okN (H H' : Heap) (v : AV) (b : Nat) : Prop := H.next ≤ b ∧ b < H'.next ∧ slBlock v ≠ some b
theorem Rows.grow {α : Type} {S : Shape α} {H H' H1 : Heap} {ok : Nat → Prop} {v v' : AV} {c : List AV} {l : List α} (h : Rows S H' (fun b => ok b ∨ okN H H' v b) c l) (hn : H.next ≤ H'.next) (hok : ∀ b, ok b → b < H.next)
    (hv : ∀ b, slBlock v = some b → H.next ≤ b) (b1 : ButOne (slBlock v) H' H1) (hs : slBlock v' = slBlock v ∨ slBlock v' = some H'.next) : Rows S H1 (fun b => ok b ∨ okN H H1 v' b) c l := by
  have hu : Upd (fun z => slBlock v = some z) H' H1 := Upd.rfl.butOne b1 fun z hz _ => hz
  refine (h.upd hu fun b hb hv' => ?_).mono fun b hb => ?_
  · rcases hb with hb | hb
    · have := hok b hb; have := hv b hv'; omega
    · exact hb.2.2 hv'
  · rcases hb with hb | ⟨q1, q2, q3⟩
    · exact .inl hb
    · refine .inr ⟨q1, by have := b1.1; omega, ?_⟩
      rcases hs with e | e
      · rw [e]; exact q3
      · rw [e]; intro e; injection e with e; omega
theorem Rows.growK {α : Type} {S : Shape α} {H H' H1 : Heap} {ok : Nat → Prop} {v : AV} {c : List AV} {l : List α} (h : Rows S H' (fun b => ok b ∨ okN H H' v b) c l) (k : Keep H' H1) : Rows S H1 (fun b => ok b ∨ okN H H1 v b) c l :=
  (h.kept k).mono fun b hb => hb.elim .inl fun ⟨q1, q2, q3⟩ => .inr ⟨q1, by have := k.next; omega, q3⟩

theorem qclear_ok {H : Heap} {p : Nat} {slv : AV} {ok : Nat → Prop} {ql : List Part} {most : Int} (h : QueueR H p slv ok ql most) :
    Cl Try.prog pr10 13 [.ptr (some (p, 0))] H fun w H' => ∃ c, Upd (fun b => b = p) H H' ∧ OwnG H' 60 5 w (allP ql).length c ∧ (∀ b, slBlock w = some b → H.next ≤ b) ∧ Rows passS H' ok c (allP ql) ∧ QueueR H' p (.slice none 0 0 none) (fun _ => False) [] most := by
  have hq := h.q
  have hm := h.many
  obtain ⟨c1, ho, hr⟩ := h.own
  obtain ⟨a, c, x, rfl, k1, m1⟩ := ho.form
  refine Cl.wf fun hw => ?_
  have hpl := hw.lt hq
  refine Cl.enter Try.func13 rfl rfl Try.ntmps13 (by simp) ?_
  refine walk hq ?_
  refine Wq.loop (fun m e H' => ∃ i w c0, i ≤ ql.length ∧ m = ql.length - i ∧ e 0 = .ptr (some (p, 0)) ∧ e 11 = .slice a ql.length c x ∧ e 12 = .int .i64 ql.length ∧ e 3 = w ∧ e 13 = .int .i64 i ∧ FreshG H H' 60 5 w (allP (ql.take i)).length c0 ∧ Rows passS H' ok c0 (allP (ql.take i))) ql.length ?_ ?_
  · exact ⟨0, _, [], by omega, by omega, by simp, by simp, by simp, rfl, by simp, by simpa [allP] using FreshG.nil Upd.rfl, by simpa [allP] using Rows.nil⟩
  · rintro m e H' ⟨i, w, c0, hi, rfl, g0, g11, g12, g3, g13, hF, hR⟩
    have hpn : p < H'.next := by have := hF.keep.next; omega
    have hq' := (hF.keep.get hpl).trans hq
    by_cases hlt : i < ql.length
    · obtain ⟨y, hy⟩ := get_lt hlt
      obtain ⟨b1, o1, d1, rfl, _, _, hb1, hg1, _, hf1, hd1⟩ := (ho.kept hF.keep).at (by omega)
      obtain ⟨vb, vl, x0, x1, _, e1, hbb, hl1⟩ := part_at (hr.kept hF.keep) hy hd1
      obtain ⟨cl, hS, hSb, _, hrl⟩ := hl1.open
      obtain ⟨la, lc, lx, rfl, _⟩ := hS.form
      have hp4 := h.few y (List.mem_of_getElem? hy)
      have hal := allP_few (l := ql.take i) (n := 4) fun x hx => h.few x (List.mem_of_mem_take hx)
      rw [List.length_take] at hal
      have hf2 := idx_fit (s := 2) hlt
      obtain ⟨wa, wc, wx, rfl, _⟩ := hF.own.form
      refine walk (both g0 (both g3 (both g13 (both g11 (both g12 (both hlt (both hg1 e1))))))) ?_
      refine Oq.storeFull (b := H'.next) (vs := [vb, .slice la y.l.length lc lx]) (by simp ) (by simp ) (by simp ; exact ⟨rfl, rfl, rfl⟩) (by simp) (by simp) (partS.one (part_mk hbb hl1)) (by simp) ?_
      generalize hHb : Heap.set (Heap.push H' _) _ _ = Hb
      have kb : Keep H' Hb := by subst hHb; exact (Upd.rfl.push _).set _ (by simp) (by omega)
      have gb : Hb.get H'.next = some (.cells [vb, .slice la y.l.length lc lx] 38 true false) := by subst hHb; simp
      refine walk (both g3 gb) ?_
      refine Oq.appendG (own := ((hF.then kb).own)) (new := cl) (m := y.l.length) (by simp (disch := omega) [g0, gb, -getElem?_pos, wrapI64, tdivN, tmodN, ipos, ineg, dpos, dneg, slc_l, slc_h, slc_lh, slc_hm, slc_lhm, slc_0, slcR_some, slcR_none, cutS_ok, cutA_ok, byteAt_ok]; first | done | (repeat' (first | rfl | apply And.intro))) ⟨_, rfl, by simp; first | done | (repeat' (first | rfl | apply And.intro))⟩ rfl (by kernel_rfl) (by kernel_rfl) ((hS.kept kb).src') hS.len hrl.all1 (by omega) (by omega) fun w1 H1 o1 b1 s1 => ?_
      refine walk (both g0 g13) ?_
      have ku : Upd (fun z => H.next ≤ z) Hb H1 := Upd.rfl.butOne b1 fun z hz _ => hF.new z hz
      have hok : ∀ z, ok z → ¬ H.next ≤ z := fun z hz => by have := (h.okd z hz).1; omega
      refine Roundq.normal (ql.length - (i + 1)) (by omega) ⟨i + 1, w1, c0 ++ cl, by omega, rfl, by simp [g0], by simp [g11], by simp [g12], by simp, by simp, ?_, ?_⟩
      · rw [allP_take ql hy, List.length_append]; exact (hF.then kb).app o1 b1 s1
      · rw [allP_take ql hy]
        exact ((hR.kept kb).upd ku hok).app ((hrl.kept kb).upd ku hok)
    · rw [List.take_of_length_le (by omega)] at hF hR
      refine walk (both g0 (both g3 (both g13 (both g11 (both g12 (both hlt hq')))))) ?_
      generalize hHb : Heap.set _ _ _ = Hb
      have ub : Upd (fun z => z = p) H' Hb := by
        subst hHb; first | exact ((Upd.rfl (fp := fun z => z = p)).set _ hpn fun _ => rfl).set _ (by simpa using hpn) fun _ => rfl
      have hwp : ∀ z, slBlock w = some z → ¬ z = p := fun z hz => by have := hF.new z hz; omega
      refine ⟨c0, (Upd.of hF.keep).trans ub fun z _ h => h, hF.own.upd ub hwp, hF.new, hR.upd ub fun z hz e => (h.okd z hz).2.1 e, ?_, ⟨[], OwnG.nil, Rows.nil⟩, fun _ h => h.elim, by simp [slBlock], by simp, by simp, by simp [total]; have := h.fits; omega, by simp [slBlock], by simp⟩
      subst hHb; simp [total]

theorem dump_ok {H : Heap} {p : Nat} {slv : AV} {ok : Nat → Prop} {ql : List Part} {most : Int} (h : QueueR H p slv ok ql most) :
    Cl Try.prog pr10 11 [.ptr (some (p, 0))] H fun w H' => ∃ c, FreshG H H' 38 2 w ql.length c ∧ (∀ z, slBlock w = some z → z < H'.next) ∧ Rows partS H' (fun b => ok b ∨ okN H H' w b) c ql := by
  have hq := h.q
  have hm := h.many
  have hfit := h.fits
  obtain ⟨c1, ho, hr⟩ := h.own
  obtain ⟨a, c, x, rfl, k1, m1⟩ := ho.form
  have hok : ∀ z, ok z → z < H.next := fun z hz => (h.okd z hz).1
  refine Cl.wf fun hw => ?_
  have hpl := hw.lt hq
  refine Cl.enter Try.func11 rfl rfl Try.ntmps11 (by simp) ?_
  refine walk hq ?_
  refine Wq.loop (fun m e H' => ∃ i w c0, i ≤ ql.length ∧ m = ql.length - i ∧ e 11 = .slice a ql.length c x ∧ e 12 = .int .i64 ql.length ∧ e 3 = w ∧ e 13 = .int .i64 i ∧ FreshG H H' 38 2 w i c0 ∧ (∀ z, slBlock w = some z → z < H'.next) ∧ Rows partS H' (fun b => ok b ∨ okN H H' w b) c0 (ql.take i)) ql.length ?_ ?_
  · exact ⟨0, _, [], by omega, by omega, by simp, by simp, rfl, by simp, by simpa using FreshG.nil Upd.rfl, by simp [slBlock], by simpa using Rows.nil⟩
  · rintro m e H' ⟨i, w, c0, hi, rfl, g11, g12, g3, g13, hF, hwl, hR⟩
    by_cases hlt : i < ql.length
    · obtain ⟨y, hy⟩ := get_lt hlt
      obtain ⟨b1, o1, d1, rfl, _, _, hb1, hg1, _, hf1, hd1⟩ := (ho.kept hF.keep).at (by omega)
      obtain ⟨vb, vl, x0, x1, _, e1, hbb, hl1⟩ := part_at (hr.kept hF.keep) hy hd1
      obtain ⟨cl, hS, hSb, _, hrl⟩ := hl1.open
      obtain ⟨vb', e, hB, _, _⟩ := id hbb
      injection e with e _; subst e
      have hp4 := h.few y (List.mem_of_getElem? hy)
      have hbl := total_take ql hy
      have hbl2 := total_le ql (i + 1)
      have hf2 := idx_fit (s := 2) hlt
      obtain ⟨wa, wc, wx, rfl, _⟩ := hF.own.form
      refine walk (both g3 (both g13 (both g11 (both g12 (both hlt (both hg1 e1)))))) ?_
      refine Oq.storeFull (b := H'.next) (vs := [vb, vl]) (by simp ) (by simp ) (by simp ; exact ⟨rfl, rfl, rfl⟩) (by simp) (by simp) (partS.one (part_mk hbb hl1)) (by simp) ?_
      generalize hHb : Heap.set (Heap.push H' _) _ _ = Hb
      have kb : Keep H' Hb := by subst hHb; exact (Upd.rfl.push _).set _ (by simp) (by omega)
      have gb : Hb.get H'.next = some (.cells [vb, vl] 38 true false) := by subst hHb; simp
      have nb : Hb.next = H'.next + 1 := by subst hHb; simp
      refine walk none0 ?_
      refine Wq.regionM [(1, 0), (2, 0), (3, 0), (4, 0), (5, 2), (6, 0), (0, 0), (7, 0), (8, 0), (9, 0), (10, 0)] (by kernel_rfl) ?_
      refine mwalk gb ?_
      refine Cl.wfK ((clone25 _ _ _ Hb (hB.kept kb) (cellsOfBytes_one _) (by omega)).mono fun v1 H1 hn1 hF1 hw1 => ?_)
      have gb1 := (hF1.keep.get (show H'.next < Hb.next by omega)).trans gb
      refine mwalk (both gb gb1) ?_
      refine Cl.wfK ((clone28 _ _ _ H1 ((hS.kept kb).kept hF1.keep) hrl.all1 (by omega)).mono fun v2 H2 hn2 hF2 hw2 => ?_)
      obtain ⟨a1, x1', rfl, _⟩ := hF1.own.form
      obtain ⟨a2, x2', rfl, _⟩ := hF2.own.form
      refine mwalk g3 ?_
      have kk : Keep H' (H2.push (AObj.cells [AV.slice a1 y.b.length y.b.length x1', AV.slice a2 y.l.length y.l.length x2'] 38 true false)) := ((kb.then hF1.keep).then hF2.keep).push _
      refine Dq.appendG (own := (hF.then kk).own) (new := [AV.slice a1 y.b.length y.b.length x1', AV.slice a2 y.l.length y.l.length x2']) (q := 1) rfl met_none (by simp (disch := omega) [g3, -getElem?_pos, wrapI64, tdivN, tmodN, ipos, ineg, dpos, dneg, slc_l, slc_h, slc_lh, slc_hm, slc_lhm, slc_0, slcR_some, slcR_none, cutS_ok, cutA_ok, byteAt_ok]; first | done | (repeat' (first | rfl | apply And.intro))) ⟨_, rfl, by simp; first | done | (repeat' (first | rfl | apply And.intro))⟩ rfl (by kernel_rfl) (by kernel_rfl) (by refine ⟨by simp, ?_⟩; simp (disch := omega) [srcCells, cellsAt, g3, -getElem?_pos, wrapI64, tdivN, tmodN, ipos, ineg, dpos, dneg, slc_l, slc_h, slc_lh, slc_hm, slc_lhm, slc_0, slcR_some, slcR_none, cutS_ok, cutA_ok, byteAt_ok]; first | done | rfl) (by simp [g3]) (by simp [g3]) (by omega) (by omega) fun w1 H3 o3 b3 s3 => ?_
      refine mwalk g3 ?_
      refine walk g13 ?_
      have hn3 := b3.1
      simp at hn3
      have hs3 : slBlock w1 = slBlock (AV.slice wa i wc wx) ∨ slBlock w1 = some (H2.next + 1) := s3
      have u3 : Upd (fun z => slBlock (AV.slice wa i wc wx) = some z) H2 H3 := (Upd.rfl.push _).butOne b3 fun z hz _ => hz
      have hnew : ∀ z, Hb.next ≤ z → z < H2.next → okN H H3 w1 z := fun z q1 q2 => by
        refine ⟨by have := hF.keep.next; omega, by omega, ?_⟩
        rcases hs3 with e | e
        · rw [e]; intro e; have := hwl z e; omega
        · rw [e]; intro e; injection e with e; omega
      have hp1 : bytesS.R H3 (fun b => ok b ∨ okN H H3 w1 b) [AV.slice a1 y.b.length y.b.length x1'] y.b :=
        ⟨_, rfl, (hF1.own.sl.kept hF2.keep).upd u3 fun z hz _ e => (by have := hF1.new z hz; have := hwl z e; omega), fun z hz _ => .inr (hnew z (hF1.new z hz) (by have := hF1.own.lt z hz; have := hF2.keep.next; omega)), by unfold maxLen; omega⟩
      have hp2 : List0 passS H3 (fun b => ok b ∨ okN H H3 w1 b) (AV.slice a2 y.l.length y.l.length x2') y.l :=
        List0.mk (c := cl) (hF2.own.sl.upd u3 fun z hz _ e => (by have := hF2.new z hz; have := hwl z e; have := hF1.keep.next; omega)) (fun z hz _ => .inr (hnew z (by have := hF2.new z hz; have := hF1.keep.next; omega) (hF2.own.lt z hz))) (by unfold maxLen; omega)
          (((((hrl.kept kb).kept hF1.keep).kept hF2.keep).upd u3 fun z hz e => by have := hok z hz; have := hF.new z e; omega).mono fun _ h => .inl h)
      refine Roundq.normal (ql.length - (i + 1)) (by omega) ⟨i + 1, w1, _, by omega, rfl, by simp [g11], by simp [g12], by simp, by simp, (hF.then kk).app o3 b3 s3, o3.lt0 (by omega), ?_⟩
      rw [List.take_add_one, hy]
      exact ((hR.growK kk).grow (by have := hF.keep.next; have := kk.next; omega) hok hF.new b3 s3).app (Rows.one (part_mk (x := y) hp1 hp2))
    · refine walk (both g3 (both g13 (both g11 (both g12 hlt)))) ?_
      rw [List.take_of_length_le (by omega)] at hR
      obtain rfl : i = ql.length := by omega
      exact ⟨c0, hF, hwl, hR⟩
end Go.Abs

/- Chapter 10: the reference's Take, walked. -/
namespace Go.Abs
open Go.Proofs
set_option maxRecDepth 100000
set_option linter.unusedVariables false
set_option linter.unusedSimpArgs false

/-- What the reference takes, part by part. -/
def takeR (n : Nat) : Bool → Nat → List Part → List UInt8 × List Part
  | _, _, [] => ([], [])
  | op, got, x :: r =>
    let op' := op && x.l.isEmpty
    let k := if op' then min x.b.length (n - got) else 0
    let q := takeR n op' (got + k) r
    (x.b.take k ++ q.1, if x.b.length ≤ k then q.2 else ⟨x.b.drop k, x.l⟩ :: q.2)

theorem takeR_no {H : Heap} {ok : Nat → Prop} {lv : AV} {l : List Part} (h : List0 partS H ok lv l) (n m : Int) (hn : n < 1 ∨ l = []) :
    Cl Try.prog pr10 27 [lv, .int .i64 n, .int .i64 m] H fun w H' => (∃ z, w = .tuple [lv, .slice (some (z, 0)) 0 0 none, .agg [.slice none 0 0 none, .slice none 0 0 none]] ∧ ∃ c, H.next ≤ z ∧ z < H'.next ∧ H'.get z = some (.cells c 5 true false)) ∧ Keep H H' := by
  obtain ⟨a, c, x, rfl, k1, m1, n1⟩ := h.form
  refine Cl.enter Try.func27 rfl rfl Try.ntmps27 (by simp) ?_
  have hl : l.length = 0 ∨ 0 < l.length := by omega
  by_cases hn1 : n < 1
  · refine walk hn1 ?_
    refine Wq.regionD [0, 1, 2, 3, 4, 5] (by kernel_rfl) ?_
    refine walk hn1 ?_
    exact ⟨⟨H.next + 1, rfl, [], by omega, by simp <;> omega, by simp⟩, ((((Upd.rfl.push _).push _).push _).set _ (by simp <;> omega) (by omega)).set _ (by simp <;> omega) (by omega)⟩
  · obtain rfl : l = [] := hn.resolve_left hn1
    refine walk hn1 ?_
    refine Wq.regionD [0, 1, 2, 3, 4, 5] (by kernel_rfl) ?_
    refine walk hn1 ?_
    exact ⟨⟨H.next + 1, rfl, [], by omega, by simp <;> omega, by simp⟩, ((((Upd.rfl.push _).push _).push _).set _ (by simp <;> omega) (by omega)).set _ (by simp <;> omega) (by omega)⟩
def ord (sw : Bool) (a b : AV) : List AV := if sw then [b, a] else [a, b]
structure TakeS (sw : Bool) (H H' : Heap) (ok : Nat → Prop) (v0 v1 : AV) (l0 l1 : List Pass) : Prop where
  keep : Keep H H'
  gT : H'.get H.next = some (.cells [.slice none 0 0 none, .slice none 0 0 none] 65 true false)
  gB : H'.get (H.next + 1) = some (.cells [] 5 true false)
  gP : H'.get (H.next + 2) = some (.cells (ord sw v0 v1) 65 true false)
  nx : H.next + 3 ≤ H'.next
  o0 : ∃ c, OwnG H' 60 5 v0 l0.length c ∧ Rows passS H' ok c l0
  o1 : ∃ c, OwnG H' 60 5 v1 l1.length c ∧ Rows passS H' ok c l1
  b0 : ∀ z, slBlock v0 = some z → H.next + 3 ≤ z ∧ z < H'.next
  b1 : ∀ z, slBlock v1 = some z → H.next + 3 ≤ z ∧ z < H'.next
  ap : ∀ z, slBlock v0 = some z → slBlock v1 ≠ some z
theorem TakeS.kept {sw : Bool} {H H' H1 : Heap} {ok : Nat → Prop} {v0 v1 : AV} {l0 l1 : List Pass} (h : TakeS sw H H' ok v0 v1 l0 l1) (k : Keep H' H1) : TakeS sw H H1 ok v0 v1 l0 l1 := by
  have hn := h.nx
  obtain ⟨c0, q0, s0⟩ := h.o0
  obtain ⟨c1, q1, s1⟩ := h.o1
  have hk := k.next
  exact ⟨h.keep.then k, (k.get (by omega)).trans h.gT, (k.get (by omega)).trans h.gB, (k.get (by omega)).trans h.gP, by omega, ⟨c0, q0.kept k, s0.kept k⟩, ⟨c1, q1.kept k, s1.kept k⟩, fun z hz => by have := h.b0 z hz; omega, fun z hz => by have := h.b1 z hz; omega, h.ap⟩
/-- One more told. -/
theorem TakeS.told {sw : Bool} {H H' H1 : Heap} {ok : Nat → Prop} {v0 v1 v : AV} {l0 l1 : List Pass} {cs : List AV} {x : Pass} (h : TakeS sw H H' ok v0 v1 l0 l1) (hok : ∀ b, ok b → b < H.next) (hx : passS.R H' ok cs x) {c : List AV}
    (hc : Rows passS H' ok c l0) (o : OwnG H1 60 5 v (l0.length + 1) (c ++ cs)) (b : ButOne (slBlock v0) (H'.push (.cells cs 60 true false)) H1) (hs : slBlock v = slBlock v0 ∨ slBlock v = some (H'.push (.cells cs 60 true false)).next) : TakeS sw H (H1.set (H.next + 2) (.cells (ord sw v v1) 65 true false)) ok v v1 (l0 ++ [x]) l1 := by
  have hn := h.nx
  have hn1 := b.1
  simp only [Heap.next_push] at hn1 hs
  have u : Upd (fun z => slBlock v0 = some z) H' H1 := (Upd.rfl.push _).butOne b fun z hz _ => hz
  have hlt := o.lt0 (by omega)
  have hv : ∀ z, slBlock v = some z → H.next + 3 ≤ z := fun z hz => by
    rcases hs with e | e
    · exact (h.b0 z (e ▸ hz)).1
    · rw [e] at hz; injection hz with hz; omega
  have u2 : Upd (fun z => slBlock v0 = some z ∨ z = H.next + 2) H' (H1.set (H.next + 2) (.cells (ord sw v v1) 65 true false)) := (u.mono fun _ _ h => .inl h).set _ (by omega) fun _ => .inr rfl
  have hokn : ∀ z, ok z → ¬ (slBlock v0 = some z ∨ z = H.next + 2) := fun z hz h' => by
    have := hok z hz
    rcases h' with h' | h'
    · have := h.b0 z h'; omega
    · omega
  have gg : ∀ z, z < H.next + 2 → (H1.set (H.next + 2) (.cells (ord sw v v1) 65 true false)).get z = H'.get z := fun z hz => u2.keep z (by omega) fun h' => by
    rcases h' with h' | h'
    · have := h.b0 z h'; omega
    · omega
  obtain ⟨c1, q1, s1⟩ := h.o1
  refine ⟨⟨by have := h.keep.next; simp; omega, fun hw => u2.wf (h.keep.wf hw), fun z hz _ => (gg z (by omega)).trans (h.keep.get hz)⟩, (gg _ (by omega)).trans h.gT, (gg _ (by omega)).trans h.gB, by simp, by simp; omega, ⟨c ++ cs, ?_, ?_⟩, ⟨c1, q1.upd u2 fun z hz h' => ?_, s1.upd u2 hokn⟩, fun z hz => ⟨hv z hz, by simpa using hlt z hz⟩, fun z hz => ⟨(h.b1 z hz).1, by have := (h.b1 z hz).2; simp; omega⟩, fun z hz e => ?_⟩
  · rw [List.length_append]
    exact o.keep (by simp) fun z hz _ => by rw [Heap.get_set, if_neg (by have := hv z hz; omega)]
  · exact (hc.upd u2 hokn).app (Rows.one (passS.upd hx u2 hokn))
  · rcases h' with h' | h'
    · exact h.ap z h' hz
    · have := h.b1 z hz; omega
  · rcases hs with e' | e'
    · exact h.ap z (e' ▸ hz) e
    · rw [e'] at hz; injection hz with hz; have := h.b1 z e; omega
theorem TakeS.swap {sw : Bool} {H H' : Heap} {ok : Nat → Prop} {v0 v1 : AV} {l0 l1 : List Pass} (h : TakeS sw H H' ok v0 v1 l0 l1) : TakeS (!sw) H H' ok v1 v0 l1 l0 :=
  ⟨h.keep, h.gT, h.gB, by rw [h.gP]; cases sw <;> rfl, h.nx, h.o1, h.o0, h.b1, h.b0, fun z hz e => h.ap z e hz⟩
set_option maxHeartbeats 4000000 in
theorem takeR_ok {H : Heap} {ok : Nat → Prop} {lv : AV} {x : Part} {r : List Part} (h : List0 partS H ok lv (x :: r)) (hok : ∀ b, ok b → b < H.next) (n m : Int) (hn : 1 ≤ n) (hlr : r.length ≤ 20) (hlf : x.l.length ≤ 10) (hbf : total (x :: r) ≤ 5000) (hne : ∀ y ∈ x :: r, y.b ≠ []) :
    Cl Try.prog pr10 27 [lv, .int .i64 n, .int .i64 m] H fun w H' => ∃ lo lb p0 p1 c0 c1 c2, w = .tuple [lo, lb, .agg [p0, p1]] ∧ Keep H H' ∧ (∀ z, slBlock lo = some z → H.next ≤ z ∧ z < H'.next) ∧
      OwnG H' 38 2 lo (takeR n.toNat true 0 (⟨x.b, []⟩ :: r)).2.length c2 ∧ Rows partS H' ok c2 (takeR n.toNat true 0 (⟨x.b, []⟩ :: r)).2 ∧
      Sl H' 1 lb (takeR n.toNat true 0 (⟨x.b, []⟩ :: r)).1.length (cellsOfBytes (takeR n.toNat true 0 (⟨x.b, []⟩ :: r)).1) ∧
      OwnG H' 60 5 p0 (x.l.take (max (min m x.l.length) 0).toNat).length c0 ∧ Rows passS H' ok c0 (x.l.take (max (min m x.l.length) 0).toNat) ∧
      OwnG H' 60 5 p1 (x.l.drop (max (min m x.l.length) 0).toNat).length c1 ∧ Rows passS H' ok c1 (x.l.drop (max (min m x.l.length) 0).toNat) := by
  obtain ⟨a, c, ex, rfl, k1, m1, n1⟩ := h.form
  have hc1 : ¬ n < 1 := by omega
  obtain ⟨b, o, d, t1, w1, mk1, cs1, rfl, hokb, hb1, hg1, hf1, hd1, hr1⟩ := h.at (i := 0) rfl
  obtain ⟨vb, vl, rfl, hbb, hl1⟩ := part_open hr1
  obtain ⟨la, lc, lx, rfl, _⟩ := hl1.form
  have r1 : d[o + 1]? = some (.slice la x.l.length lc lx) := by have := get_of_take (j := 1) hd1 (by decide); simpa using this
  simp only [partS_s, Nat.zero_mul, Nat.add_zero, List.length_cons] at hf1 k1 n1 hd1
  unfold maxLen at n1
  refine Cl.enter Try.func27 rfl rfl Try.ntmps27 (by simp) ?_
  refine walk hc1 ?_
  have h0 : TakeS false H ((((H.push (AObj.cells [AV.slice none 0 0 none, AV.slice none 0 0 none] 65 true false)).push (AObj.cells [] 5 true false)).push (AObj.cells [AV.slice none 0 0 none, AV.slice none 0 0 none] 65 true false)).set (H.next + 1 + 1) (AObj.cells [AV.slice none 0 0 none, AV.slice none 0 0 none] 65 true false)) ok (.slice none 0 0 none) (.slice none 0 0 none) [] [] :=
    ⟨(((Upd.rfl.push _).push _).push _).set _ (by simp <;> omega) (by omega), by simp, by simp, by simp [ord], by simp <;> omega, ⟨[], OwnG.nil, Rows.nil⟩, ⟨[], OwnG.nil, Rows.nil⟩, by simp [slBlock], by simp [slBlock], by simp [slBlock]⟩
  generalize Heap.set _ _ _ = Hz at h0 ⊢
  have hKm : ∀ i : Nat, i < x.l.length → ((i : Int) < m ↔ i < (max (min m x.l.length) 0).toNat) := fun i hi => by omega
  generalize (max (min m (x.l.length : Int)) 0).toNat = K at *
  refine Wq.mono (Q := fun z e H' => z = .exit 0 ∧ ∃ v0 v1, e 0 = .slice (some (b, o)) (r.length + 1) c ex ∧ e 1 = .int .i64 n ∧ e 8 = .ptr (some (H.next, 0)) ∧ e 9 = .slice (some (H.next + 1, 0)) 0 0 none ∧ e 10 = .ptr (some (H.next + 2, 0)) ∧ TakeS false H H' ok v0 v1 (x.l.take K) (x.l.drop K)) ?_ ?_
  · refine Wq.loop (fun q e H' => ∃ i v0 v1, i ≤ x.l.length ∧ q = x.l.length - i ∧ e 0 = .slice (some (b, o)) (r.length + 1) c ex ∧ e 1 = .int .i64 n ∧ e 2 = .int .i64 m ∧ e 8 = .ptr (some (H.next, 0)) ∧ e 9 = .slice (some (H.next + 1, 0)) 0 0 none ∧ e 10 = .ptr (some (H.next + 2, 0)) ∧ e 11 = .int .i64 i ∧ TakeS false H H' ok v0 v1 ((x.l.take i).take K) ((x.l.take i).drop K)) x.l.length ?_ ?_
    · exact ⟨0, _, _, by omega, by omega, by simp, by simp, by simp, by simp, by simp, by simp, by simp, by simpa using h0⟩
    · clear h0 Hz
      rintro q e H' ⟨i, v0, v1, hi, rfl, g0, g1, g2, g8, g9, g10, g11, hT⟩
      have hg1' := (hT.keep.get hb1).trans hg1
      have hP := hT.gP
      simp only [ord, Bool.false_eq_true, if_false] at hP
      by_cases hlt : i < x.l.length
      · obtain ⟨y, hy⟩ := get_lt hlt
        have hyt : x.l.take (i + 1) = x.l.take i ++ [y] := by rw [List.take_add_one, hy]; rfl
        obtain ⟨b2, o2, d2, t2, w2, mk2, cs2, rfl, hok2, hb2, hg2, hf2, hd2, hr2⟩ := (hl1.kept hT.keep).at hy
        simp only [passS_s] at hf2 hd2
        have hc1 := passS.one hr2
        obtain ⟨vv, rfl, hvv⟩ := pass_open hr2
        obtain ⟨c0, q0, s0⟩ := hT.o0
        obtain ⟨c1, q1, s2⟩ := hT.o1
        obtain ⟨a0, cap0, ex0, rfl, _⟩ := q0.form
        obtain ⟨a1, cap1, ex1, rfl, _⟩ := q1.form
        have hn := hT.nx
        have hL0 : ((x.l.take i).take K).length ≤ 10 := by simp; omega
        have hL1 : ((x.l.take i).drop K).length ≤ 10 := by simp; omega
        by_cases him : (i : Int) < m
        · have hik := (hKm i hlt).1 him
          have e0 : (x.l.take (i + 1)).take K = (x.l.take i).take K ++ [y] := by
            have a1 : (x.l.take (i + 1)).take K = x.l.take (i + 1) := List.take_of_length_le (by simp; omega)
            have a2 : (x.l.take i).take K = x.l.take i := List.take_of_length_le (by simp; omega)
            rw [a1, a2, hyt]
          have e1 : (x.l.take (i + 1)).drop K = (x.l.take i).drop K := by rw [List.drop_eq_nil_of_le (by simp; omega), List.drop_eq_nil_of_le (by simp; omega)]
          generalize (x.l.take i).take K = A at *
          generalize (x.l.take i).drop K = B at *
          refine walk (both g0 (both g1 (both g2 (both g8 (both g9 (both g10 (both g11 (both hlt (both hg1' (both r1 him)))))))))) ?_
          refine Wq.regionD [0, 1, 2, 3, 4, 5, 6, 7, 8, 9, 10, 11, 12] (by kernel_rfl) ?_
          refine walk (both g0 (both g1 (both g2 (both g8 (both g9 (both g10 (both g11 (both hlt (both hg1' (both r1 (both him (both hP (both hg2 hd2))))))))))))) ?_
          have kk : Keep H' (H'.push (.cells [.int .i64 y.file, .int .u32 y.rights, .bool y.all, vv, .int .i64 y.fcn] 60 true false)) := Upd.rfl.push _
          refine Oq.appendG (own := (q0.kept kk)) (new := [.int .i64 y.file, .int .u32 y.rights, .bool y.all, vv, .int .i64 y.fcn]) (m := 1) (by simp (disch := omega) [g0, -getElem?_pos, wrapI64, tdivN, tmodN, ipos, ineg, dpos, dneg, slc_l, slc_h, slc_lh, slc_hm, slc_lhm, slc_0, slcR_some, slcR_none, cutS_ok, cutA_ok, byteAt_ok]; first | done | (repeat' (first | rfl | apply And.intro))) ⟨_, rfl, by simp; first | done | (repeat' (first | rfl | apply And.intro))⟩ rfl (by kernel_rfl) (by kernel_rfl) (by refine ⟨by simp, ?_⟩; simp (disch := omega) [srcCells, cellsAt, g0, -getElem?_pos, wrapI64, tdivN, tmodN, ipos, ineg, dpos, dneg, slc_l, slc_h, slc_lh, slc_hm, slc_lhm, slc_0, slcR_some, slcR_none, cutS_ok, cutA_ok, byteAt_ok]; first | done | rfl) rfl hc1 (by omega) (by omega) fun w1 H1 o1 b1 s1 => ?_
          have hP1 : H1.get (H.next + 2) = some (.cells [.slice a0 A.length cap0 ex0, .slice a1 B.length cap1 ex1] 65 true false) := by
            rw [b1.2.2 _ (by simp; omega) (fun e => by have := hT.b0 _ e.symm; omega), kk.get (by omega)]; exact hP
          have hTT := hT.told hok hr2 s0 o1 b1 s1
          obtain ⟨a3, cap3, ex3, rfl, _⟩ := o1.form
          refine walk (both g0 (both g1 (both g2 (both g8 (both g9 (both g10 (both g11 hP1))))))) ?_
          simp only [ord, Bool.not_true, Bool.not_false, Bool.false_eq_true, if_false, if_true] at hTT
          have hT2 := (congr (congrArg (TakeS false H _ ok _ _) e0) e1).mpr hTT
          exact Roundq.normal (x.l.length - (i + 1)) (by omega) ⟨i + 1, _, _, by omega, rfl, by simp [g0], by simp [g1], by simp [g2], by simp [g8], by simp [g9], by simp [g10], by simp, hT2⟩
        · have hik : ¬ i < K := fun h' => him ((hKm i hlt).2 h')
          have e0 : (x.l.take (i + 1)).take K = (x.l.take i).take K := by rw [hyt, List.take_append_of_le_length (by simp; omega)]
          have e1 : (x.l.take (i + 1)).drop K = (x.l.take i).drop K ++ [y] := by rw [hyt, List.drop_append_of_le_length (by simp; omega)]
          generalize (x.l.take i).take K = A at *
          generalize (x.l.take i).drop K = B at *
          refine walk (both g0 (both g1 (both g2 (both g8 (both g9 (both g10 (both g11 (both hlt (both hg1' (both r1 him)))))))))) ?_
          refine Wq.regionD [0, 1, 2, 3, 4, 5, 6, 7, 8, 9, 10, 11, 12] (by kernel_rfl) ?_
          refine walk (both g0 (both g1 (both g2 (both g8 (both g9 (both g10 (both g11 (both hlt (both hg1' (both r1 (both him (both hP (both hg2 hd2))))))))))))) ?_
          have kk : Keep H' (H'.push (.cells [.int .i64 y.file, .int .u32 y.rights, .bool y.all, vv, .int .i64 y.fcn] 60 true false)) := Upd.rfl.push _
          refine Oq.appendG (own := (q1.kept kk)) (new := [.int .i64 y.file, .int .u32 y.rights, .bool y.all, vv, .int .i64 y.fcn]) (m := 1) (by simp (disch := omega) [g0, -getElem?_pos, wrapI64, tdivN, tmodN, ipos, ineg, dpos, dneg, slc_l, slc_h, slc_lh, slc_hm, slc_lhm, slc_0, slcR_some, slcR_none, cutS_ok, cutA_ok, byteAt_ok]; first | done | (repeat' (first | rfl | apply And.intro))) ⟨_, rfl, by simp; first | done | (repeat' (first | rfl | apply And.intro))⟩ rfl (by kernel_rfl) (by kernel_rfl) (by refine ⟨by simp, ?_⟩; simp (disch := omega) [srcCells, cellsAt, g0, -getElem?_pos, wrapI64, tdivN, tmodN, ipos, ineg, dpos, dneg, slc_l, slc_h, slc_lh, slc_hm, slc_lhm, slc_0, slcR_some, slcR_none, cutS_ok, cutA_ok, byteAt_ok]; first | done | rfl) rfl hc1 (by omega) (by omega) fun w1 H1 o1 b1 s1 => ?_
          have hP1 : H1.get (H.next + 2) = some (.cells [.slice a0 A.length cap0 ex0, .slice a1 B.length cap1 ex1] 65 true false) := by
            rw [b1.2.2 _ (by simp; omega) (fun e => by have := hT.b1 _ e.symm; omega), kk.get (by omega)]; exact hP
          have hTT := (hT.swap.told hok hr2 s2 o1 b1 s1).swap
          obtain ⟨a3, cap3, ex3, rfl, _⟩ := o1.form
          refine walk (both g0 (both g1 (both g2 (both g8 (both g9 (both g10 (both g11 hP1))))))) ?_
          simp only [ord, Bool.not_true, Bool.not_false, Bool.false_eq_true, if_false, if_true] at hTT
          have hT2 := (congr (congrArg (TakeS false H _ ok _ _) e0) e1).mpr hTT
          exact Roundq.normal (x.l.length - (i + 1)) (by omega) ⟨i + 1, _, _, by omega, rfl, by simp [g0], by simp [g1], by simp [g2], by simp [g8], by simp [g9], by simp [g10], by simp, hT2⟩
      · refine walk (both g0 (both g1 (both g2 (both g8 (both g9 (both g10 (both g11 (both hlt (both hg1' r1))))))))) ?_
        have e : x.l.take i = x.l := List.take_of_length_le (by omega)
        rw [e] at hT
        exact ⟨rfl, _, _, by simp [g0], by simp [g1], by simp [g8], by simp [g9], by simp [g10], hT⟩
  · rintro z e Hs _ ⟨rfl, v0, v1, g0, g1, g8, g9, g10, hT⟩
    clear h0
    refine Left.here ?_
    refine Thenq.normal ?_
    refine walk g0 ?_
    have hn := hT.nx
    have htc := total_cons x r
    refine Wq.loop (fun q e H' => ∃ i B op P' lb lo c2, i ≤ r.length + 1 ∧ q = r.length + 1 - i ∧ e 0 = .slice (some (b, o)) (r.length + 1) c ex ∧ e 1 = .int .i64 n ∧ e 8 = .ptr (some (H.next, 0)) ∧ e 9 = lb ∧ e 10 = .ptr (some (H.next + 2, 0)) ∧ e 12 = lo ∧ e 13 = .bool op ∧ e 14 = .int .i64 i ∧
      Upd (fun z => z = H.next + 1) Hs H' ∧ OwnG H' 5 1 lb B.length (cellsOfBytes B) ∧ OwnG H' 38 2 lo P'.length c2 ∧ Rows partS H' ok c2 P' ∧ (∀ z, slBlock lb = some z → (z = H.next + 1 ∨ Hs.next < z) ∧ z < H'.next) ∧ (∀ z, slBlock lo = some z → Hs.next ≤ z ∧ z < H'.next) ∧ (∀ z, slBlock lb = some z → slBlock lo ≠ some z) ∧
      B.length + total ((⟨x.b, []⟩ :: r).drop i) ≤ 5000 ∧ P'.length ≤ i ∧ takeR n.toNat true 0 (⟨x.b, []⟩ :: r) = (B ++ (takeR n.toNat op B.length ((⟨x.b, []⟩ :: r).drop i)).1, P' ++ (takeR n.toNat op B.length ((⟨x.b, []⟩ :: r).drop i)).2)) (r.length + 1) ?_ ?_
    · exact ⟨0, [], true, [], .slice (some (H.next + 1, 0)) 0 0 none, .slice (some (Hs.next, 0)) 0 0 none, [], by omega, by omega, by simp [g0], by simp [g1], by simp [g8], by simp [g9], by simp [g10], by simp, by simp, by simp, Upd.rfl.push _, .empty _, .empty _, Rows.nil, by simp [slBlock]; omega, by simp [slBlock], by simp [slBlock]; omega, by simp [total_cons] at hbf ⊢; omega, by simp, by simp⟩
    · rintro q e H' ⟨i, B, op, P', lb, lo, c2, hi, rfl, g0, g1, g8, g9, g10, g12, g13, g14, hU, hB, hO, hR, hbB, hbO, hap, hbd, hpl, htk⟩
      have hHs : H.next ≤ Hs.next := by omega
      have hkp : Keep H H' := (hT.keep.trans hU fun z hz e => by omega).mono fun _ _ h => h
      have hnx := hU.next
      by_cases hlt : i < r.length + 1
      · obtain ⟨y, hy⟩ := get_lt (l := x :: r) (show i < (x :: r).length by simpa using hlt)
        obtain ⟨b3, o3, d3, t3, w3, mk3, cs3, e3, hok3, hb3, hg3, hf3, hd3, hr3⟩ := (h.kept hkp).at hy
        simp only [Option.some.injEq, Prod.mk.injEq] at e3
        obtain ⟨rfl, rfl⟩ := e3
        obtain ⟨wb, wl, rfl, hbb3, hl3⟩ := part_open hr3
        obtain ⟨wb', e4, hS3, hSb3, hSm3⟩ := id hbb3
        injection e4 with e4 _; subst e4
        simp only [partS_s] at hf3 hd3
        refine walk (both g0 (both g1 (both g8 (both g9 (both g10 (both g12 (both g13 (both g14 (both hlt (both hg3 hd3)))))))))) ?_
        refine Oq.storeFull (b := H'.next) (vs := [wb, wl]) (by simp ) (by simp ) (by simp ; exact ⟨rfl, rfl, rfl⟩) (by simp) (by simp) (partS.one (part_mk hbb3 hl3)) (by simp) ?_
        generalize hHb : Heap.set (Heap.push H' _) _ _ = Hb
        have kb : Keep H' Hb := by subst hHb; exact (Upd.rfl.push _).set _ (by simp) (by omega)
        have gb : Hb.get H'.next = some (.cells [wb, wl] 38 true false) := by subst hHb; simp
        have nb : Hb.next = H'.next + 1 := by subst hHb; simp
        have wfb := kb.wf
        clear hHb
        refine Oq.nil ?_
        refine Thenq.normal ?_
        have hkb : Keep H Hb := hkp.then kb
        obtain ⟨y', hy'⟩ := get_lt (l := (⟨x.b, []⟩ :: r : List Part)) (show i < (⟨x.b, []⟩ :: r : List Part).length by simpa using hlt)
        have hyb : y'.b = y.b := by
          cases i with
          | zero => simp at hy hy'; rw [← hy, ← hy']
          | succ i => simp at hy hy'; rw [hy] at hy'; injection hy' with hy'; rw [hy']
        have hdrop : (⟨x.b, []⟩ :: r : List Part).drop i = y' :: (⟨x.b, []⟩ :: r : List Part).drop (i + 1) := by
          rw [List.drop_eq_getElem?_toList_append, hy']; rfl
        refine Wq.seq (Wq.mono (Q := fun z e Hx => z = .normal ∧ (∃ wl', Upd (fun z => z = H'.next) Hb Hx ∧ Hx.get H'.next = some (.cells [wb, wl'] 38 true false) ∧ List0 passS Hx ok wl' y'.l) ∧ e 0 = .slice (some (b, o)) (r.length + 1) c ex ∧ e 1 = .int .i64 n ∧ e 8 = .ptr (some (H.next, 0)) ∧ e 9 = lb ∧ e 10 = .ptr (some (H.next + 2, 0)) ∧ e 12 = lo ∧ e 13 = .bool op ∧ e 14 = .int .i64 i ∧ e 15 = .ptr (some (H'.next, 0))) ?_ ?_)
        · by_cases hi0 : i = 0
          · subst hi0
            simp at hy'
            subst hy'
            refine walk (both g0 (both g1 (both g8 (both g9 (both g10 (both g12 (both g13 (both g14 gb)))))))) ?_
            exact ⟨rfl, ⟨_, Upd.rfl.set _ (by omega) fun _ => rfl, by simp, List0.nil⟩, by simp [g0], by simp [g1], by simp [g8], by simp [g9], by simp [g10], by simp [g12], by simp [g13], by simp [g14], by simp⟩
          · have hi1 : ((i : Int) = 0) = False := by simp [hi0]
            have hyy : y' = y := by
              cases i with
              | zero => exact absurd rfl hi0
              | succ i => simp at hy hy'; rw [hy] at hy'; injection hy' with hy'; rw [hy']
            refine walk (both g0 (both g1 (both g8 (both g9 (both g10 (both g12 (both g13 (both g14 (both gb hi1))))))))) ?_
            exact ⟨rfl, ⟨_, Upd.rfl, gb, by rw [hyy]; exact hl3.kept kb⟩, by simp [g0], by simp [g1], by simp [g8], by simp [g9], by simp [g10], by simp [g12], by simp [g13], by simp [g14], by simp⟩
        · rintro z e Hx _ ⟨rfl, ⟨wl', hUx, gx, hlx⟩, g0, g1, g8, g9, g10, g12, g13, g14, g15⟩
          refine Thenq.normal ?_
          have kx : Keep H' Hx := kb.trans hUx fun z hz e => by omega
          have hnx2 := kx.next
          have hxx : H'.next < Hx.next := by have := hUx.next; omega
          obtain ⟨wla, wlc, wlx, rfl, _⟩ := hlx.form
          obtain ⟨wba, wbc, wbx, rfl, hwbc, hwbx⟩ := hS3.form
          have hSx := hS3.kept (kx)
          refine Wq.seq (Wq.mono (Q := fun z e Hy => z = .normal ∧ Hy = Hx ∧ e 0 = .slice (some (b, o)) (r.length + 1) c ex ∧ e 1 = .int .i64 n ∧ e 8 = .ptr (some (H.next, 0)) ∧ e 9 = lb ∧ e 10 = .ptr (some (H.next + 2, 0)) ∧ e 12 = lo ∧ e 13 = .bool (op && y'.l.isEmpty) ∧ e 14 = .int .i64 i ∧ e 15 = .ptr (some (H'.next, 0))) ?_ ?_)
          · cases op with
            | false =>
              refine walk (both g0 (both g1 (both g8 (both g9 (both g10 (both g12 (both g13 (both g14 (both g15 gx))))))))) ?_
              exact ⟨rfl, rfl, by simp [g0], by simp [g1], by simp [g8], by simp [g9], by simp [g10], by simp [g12], by simp, by simp [g14], by simp [g15]⟩
            | true =>
              cases hyl : y'.l with
              | nil =>
                have hyl0 : y'.l.length = 0 := by rw [hyl]; rfl
                simp only [hyl0] at gx
                refine walk (both g0 (both g1 (both g8 (both g9 (both g10 (both g12 (both g13 (both g14 (both g15 gx))))))))) ?_
                exact ⟨rfl, rfl, by simp [g0], by simp [g1], by simp [g8], by simp [g9], by simp [g10], by simp [g12], by simp, by simp [g14], by simp [g15]⟩
              | cons p1 p2 =>
                have hyl0 : 0 < y'.l.length := by rw [hyl]; simp
                refine walk (both g0 (both g1 (both g8 (both g9 (both g10 (both g12 (both g13 (both g14 (both g15 (both gx hyl0)))))))))) ?_
                exact ⟨rfl, rfl, by simp [g0], by simp [g1], by simp [g8], by simp [g9], by simp [g10], by simp [g12], by simp [hyl], by simp [g14], by simp [g15]⟩
          · rintro z e Hy _ ⟨rfl, e5, g0, g1, g8, g9, g10, g12, g13, g14, g15⟩
            obtain rfl : Hx = Hy := e5.symm
            refine Thenq.normal ?_
            have hBx := hB.kept kx
            obtain ⟨N, hN⟩ : ∃ N : Nat, n.toNat = N := ⟨_, rfl⟩
            have hnN : n = N := by omega
            rw [hN] at htk
            rw [hdrop] at hbd htk
            rw [total_cons, hyb] at hbd
            generalize hop2 : (op && y'.l.isEmpty) = op2 at *
            refine walk g0 ?_
            refine Wq.loop (fun q e Hy => ∃ k lb2, k ≤ y.b.length ∧ q = y.b.length - k ∧ e 0 = .slice (some (b, o)) (r.length + 1) c ex ∧ e 1 = .int .i64 n ∧ e 8 = .ptr (some (H.next, 0)) ∧ e 9 = lb2 ∧ e 10 = .ptr (some (H.next + 2, 0)) ∧ e 12 = lo ∧ e 13 = .bool op2 ∧ e 14 = .int .i64 i ∧ e 15 = .ptr (some (H'.next, 0)) ∧ e 16 = .int .i64 k ∧
              Upd (fun z => slBlock lb = some z) Hx Hy ∧ OwnG Hy 5 1 lb2 (B ++ y.b.take k).length (cellsOfBytes (B ++ y.b.take k)) ∧ (∀ z, slBlock lb2 = some z → (slBlock lb = some z ∨ Hx.next ≤ z) ∧ z < Hy.next) ∧ (k = 0 ∨ op2 = true ∧ B.length + k ≤ N)) y.b.length ?_ ?_
            · exact ⟨0, lb, by omega, by omega, by simp [g0], by simp [g1], by simp [g8], by simp [g9], by simp [g10], by simp [g12], by simp [g13], by simp [g14], by simp [g15], by simp, Upd.rfl, by simpa using hBx, fun z hz => ⟨.inl hz, by have := (hbB z hz).2; omega⟩, .inl rfl⟩
            · rintro q e Hy ⟨k, lb2, hk, rfl, g0, g1, g8, g9, g10, g12, g13, g14, g15, g16, hUy, hBy, hby, hkk⟩
              have gy := (hUy.keep H'.next (by omega) fun e => by have := (hbB _ e).2; omega).trans gx
              have hlk : (B ++ y.b.take k).length = B.length + k := by rw [List.length_append, List.length_take]; omega
              by_cases hgo : op2 = true ∧ k < y.b.length ∧ B.length + k < N
              · obtain ⟨hop, hkl, hkn⟩ := hgo
                subst hop
                obtain ⟨ub, hub⟩ := get_lt hkl
                obtain ⟨b4, o4, c4, t4, w4, m4, rfl, q1, q2, q3, q4⟩ := hSx.at (by omega)
                have q2' := (hUy.keep b4 q1 (fun e => by have := hok _ (hSb3 _ rfl (by omega)); have := (hbB _ e).1; omega)).trans q2
                have hby4 : c4[o4 + k]? = some (.int .u8 ub.toNat) := by
                  have := sub_get (i := k) q4 (by omega)
                  rw [this]; simp [cellsOfBytes, hub]
                have hkn' : ((B.length + k : Nat) : Int) < n := by omega
                obtain ⟨l2, lc2, lx2, rfl, _⟩ := hBy.form
                rw [hlk] at *
                refine walk (both g0 (both g1 (both g8 (both g9 (both g10 (both g12 (both g13 (both g14 (both g15 (both g16 (both gy (both hkl (both hkn' (both q2' hby4)))))))))))))) ?_
                have kk : Keep Hy (Hy.push (.cells [.int .u8 ub.toNat] 5 true false)) := Upd.rfl.push _
                refine Oq.appendG (own := (hBy.kept kk)) (new := [.int .u8 ub.toNat]) (m := 1) (by simp (disch := omega) [g0, -getElem?_pos, wrapI64, tdivN, tmodN, ipos, ineg, dpos, dneg, slc_l, slc_h, slc_lh, slc_hm, slc_lhm, slc_0, slcR_some, slcR_none, cutS_ok, cutA_ok, byteAt_ok]; first | done | (repeat' (first | rfl | apply And.intro))) ⟨_, rfl, by simp; first | done | (repeat' (first | rfl | apply And.intro))⟩ rfl (by kernel_rfl) (by kernel_rfl) (by refine ⟨by simp, ?_⟩; simp (disch := omega) [srcCells, cellsAt, g0, -getElem?_pos, wrapI64, tdivN, tmodN, ipos, ineg, dpos, dneg, slc_l, slc_h, slc_lh, slc_hm, slc_lhm, slc_0, slcR_some, slcR_none, cutS_ok, cutA_ok, byteAt_ok]; first | done | rfl) (by simp [g0]) (by simp [g0]) (by omega) (by omega) fun w1 H1 o1 b1 s1 => ?_
                have hn1 := b1.1
                simp only [Heap.next_push] at hn1 s1
                have etk : cellsOfBytes (B ++ y.b.take k) ++ [.int .u8 ub.toNat] = cellsOfBytes (B ++ y.b.take (k + 1)) := by
                  rw [List.take_add_one, hub, ← List.append_assoc]; simp [cellsOfBytes]
                have hlk2 : (B ++ y.b.take (k + 1)).length = B.length + k + 1 := by rw [List.length_append, List.length_take]; omega
                rw [etk] at o1
                obtain ⟨l3, lc3, lx3, rfl, _⟩ := o1.form
                refine walk (both g0 g16) ?_
                refine Roundq.normal (y.b.length - (k + 1)) (by omega) ⟨k + 1, _, by omega, rfl, by simp [g0], by simp [g1], by simp [g8], by simp, by simp [g10], by simp [g12], by simp [g13], by simp [g14], by simp [g15], by simp, ?_, by rw [hlk2]; exact o1, fun z hz => ⟨?_, o1.lt0 (by omega) z hz⟩, .inr ⟨rfl, by omega⟩⟩
                · exact (hUy.push _).butOne b1 fun z hz hzl => ((hby z hz).1).resolve_right (by omega)
                · rcases s1 with e | e
                  · exact (hby z (e ▸ hz)).1
                  · rw [e] at hz; injection hz with hz; exact .inr (by have := hUy.next; omega)
              · refine Wq.seq (Wq.mono (Q := fun z e Hz => z = .exit 4 ∧ Hz = Hy ∧ e 0 = .slice (some (b, o)) (r.length + 1) c ex ∧ e 1 = .int .i64 n ∧ e 8 = .ptr (some (H.next, 0)) ∧ e 9 = lb2 ∧ e 10 = .ptr (some (H.next + 2, 0)) ∧ e 12 = lo ∧ e 13 = .bool op2 ∧ e 14 = .int .i64 i ∧ e 15 = .ptr (some (H'.next, 0)) ∧ e 16 = .int .i64 k) ?_ ?_)
                · obtain ⟨l2, lc2, lx2, rfl, _⟩ := hBy.form
                  rw [hlk] at *
                  cases op2 with
                  | false =>
                    refine walk (both g0 (both g1 (both g8 (both g9 (both g10 (both g12 (both g13 (both g14 (both g15 (both g16 gy)))))))))) ?_
                    exact ⟨rfl, rfl, by simp [g0], by simp [g1], by simp [g8], by simp [g9], by simp [g10], by simp [g12], by simp [g13], by simp [g14], by simp [g15], by simp [g16]⟩
                  | true =>
                    by_cases hkl : k < y.b.length
                    · have hkn : ¬ ((B.length + k : Nat) : Int) < n := fun h' => hgo ⟨rfl, hkl, by omega⟩
                      refine walk (both g0 (both g1 (both g8 (both g9 (both g10 (both g12 (both g13 (both g14 (both g15 (both g16 (both gy (both hkl hkn)))))))))))) ?_
                      exact ⟨rfl, rfl, by simp [g0], by simp [g1], by simp [g8], by simp [g9], by simp [g10], by simp [g12], by simp [g13], by simp [g14], by simp [g15], by simp [g16]⟩
                    · refine walk (both g0 (both g1 (both g8 (both g9 (both g10 (both g12 (both g13 (both g14 (both g15 (both g16 (both gy hkl))))))))))) ?_
                      exact ⟨rfl, rfl, by simp [g0], by simp [g1], by simp [g8], by simp [g9], by simp [g10], by simp [g12], by simp [g13], by simp [g14], by simp [g15], by simp [g16]⟩
                · rintro z e Hz _ ⟨rfl, e6, g0, g1, g8, g9, g10, g12, g13, g14, g15, g16⟩
                  obtain rfl : Hy = Hz := e6.symm
                  refine Thenq.exit ?_
                  refine Roundq.exit ?_
                  refine Left.here ?_
                  refine Thenq.normal ?_
                  have hkf : k = if op2 then min y.b.length (N - B.length) else 0 := by
                    cases op2 with
                    | false => simpa using hkk
                    | true => simp at hgo ⊢; omega
                  have hyne : 0 < y.b.length := List.length_pos_iff.2 (hne y (List.mem_of_getElem? hy))
                  obtain ⟨b4, o4, c4, t4, w4, m4, rfl, q1, q2, q3, q4⟩ := hSx.at hyne
                  have hoky : ∀ z, ok z → ¬ slBlock lb = some z := fun z hz e => by have := hok z hz; have := (hbB z e).1; omega
                  have hok4 : ok b4 := hSb3 _ rfl hyne
                  have hSy := (hSx.upd hUy fun z hz _ => hoky z (hSb3 z hz hyne)).sub (k := k) (m := y.b.length - k) (cap' := wbc - k) (ex' := wbx) (by omega) (by omega) hwbx
                  simp only [Nat.mul_one, bytes_drop] at hSy
                  rw [List.take_of_length_le (by simp)] at hSy
                  have hbx : H'.next ≠ b4 := fun e => by have := hok b4 hok4; omega
                  have hUyn := hUy.next
                  have huw : ∀ v, Upd (fun z => slBlock lb = some z) H' (Hy.set H'.next v) := fun v => ((Upd.of kx).trans hUy fun z _ h => h).set _ (by omega) fun h => by omega
                  have hux : ∀ v, Upd (fun z => z = H'.next) Hy (Hy.set H'.next v) := fun v => Upd.rfl.set _ (by omega) fun _ => rfl
                  have hsU : ∀ v, Upd (fun z => z = H.next + 1) Hs (Hy.set H'.next v) := fun v => hU.trans (huw v) fun z hz e => ((hbB z e).1).resolve_right (by omega)
                  have hlb2 : ∀ z, slBlock lb2 = some z → (z = H.next + 1 ∨ Hs.next < z) ∧ z < Hy.next ∧ z ≠ H'.next ∧ slBlock lo ≠ some z := fun z hz => by
                    obtain ⟨h1, h2⟩ := hby z hz
                    rcases h1 with h1 | h1
                    · exact ⟨(hbB z h1).1, h2, by have := (hbB z h1).2; omega, hap z h1⟩
                    · exact ⟨by omega, h2, by omega, fun e => by have := (hbO z e).2; omega⟩
                  have hstep : takeR N op B.length (y' :: (⟨x.b, []⟩ :: r : List Part).drop (i + 1)) = (y.b.take k ++ (takeR N op2 (B ++ y.b.take k).length ((⟨x.b, []⟩ :: r : List Part).drop (i + 1))).1, if y.b.length ≤ k then (takeR N op2 (B ++ y.b.take k).length ((⟨x.b, []⟩ :: r : List Part).drop (i + 1))).2 else ⟨y.b.drop k, y'.l⟩ :: (takeR N op2 (B ++ y.b.take k).length ((⟨x.b, []⟩ :: r : List Part).drop (i + 1))).2) := by
                    rw [hlk]
                    conv => lhs; unfold takeR
                    simp only [hop2, hyb, ← hkf]
                  rw [hstep] at htk
                  have hkz : (k : Int) ≤ y.b.length := by omega
                  by_cases hall : y.b.length ≤ k
                  · have hk0 : ¬ 0 < (y.b.length : Int) - k := by omega
                    refine walk (both g0 (both g1 (both g8 (both g9 (both g10 (both g12 (both g13 (both g14 (both g15 (both g16 (both gy (both hwbx (both hkz hk0))))))))))))) ?_
                    have hkb : (B ++ y.b.take k).length + total ((⟨x.b, []⟩ :: r : List Part).drop (i + 1)) ≤ 5000 := by omega
                    rw [if_pos hall] at htk
                    refine Roundq.normal (r.length + 1 - (i + 1)) (by omega) ⟨i + 1, B ++ y.b.take k, op2, P', lb2, lo, c2, by omega, rfl, by simp [g0], by simp [g1], by simp [g8], by simp [g9], by simp [g10], by simp [g12], by simp [g13], by simp, hsU _, hBy.upd (hux _) fun z hz => (hlb2 z hz).2.2.1, hO.upd (huw _) fun z hz e => hap z e hz, hR.upd (huw _) hoky, fun z hz => ⟨(hlb2 z hz).1, by simpa using (hlb2 z hz).2.1⟩, fun z hz => ⟨(hbO z hz).1, by have := (hbO z hz).2; simp; omega⟩, fun z hz => (hlb2 z hz).2.2.2, hkb, by omega, ?_⟩
                    rw [hN, htk, List.append_assoc]
                  · have hk0 : k < y.b.length := by omega
                    refine walk (both g0 (both g1 (both g8 (both g9 (both g10 (both g12 (both g13 (both g14 (both g15 (both g16 (both gy (both hwbx (both hkz hk0))))))))))))) ?_
                    have hkb : (B ++ y.b.take k).length + total ((⟨x.b, []⟩ :: r : List Part).drop (i + 1)) ≤ 5000 := by omega
                    rw [if_neg hall] at htk
                    have hlr2 : List0 passS Hy ok (AV.slice wla y'.l.length wlc wlx) y'.l := hlx.upd hUy hoky
                    have hpy : ∀ Hz, Upd (fun z => H.next ≤ z) Hy Hz → partS.R Hz ok [AV.slice (some (b4, o4 + k)) (y.b.length - k) (wbc - k) wbx, AV.slice wla y'.l.length wlc wlx] ⟨y.b.drop k, y'.l⟩ := fun Hz kz =>
                      part_mk ⟨_, rfl, by simpa using hSy.upd kz fun z hz _ => by simp [slBlock] at hz; have := hok _ hok4; omega, fun z hz _ => by simp [slBlock] at hz; rw [← hz]; exact hok4, by simp; omega⟩ (hlr2.upd kz fun z hz => by have := hok z hz; omega)
                    obtain ⟨oa, oc, ox, rfl, _⟩ := hO.form
                    refine Oq.appendG (own := ((hO.upd (huw _) (fun z hz e => hap z e hz)).kept (Upd.rfl.push _))) (new := [AV.slice (some (b4, o4 + k)) (y.b.length - k) (wbc - k) wbx, AV.slice wla y'.l.length wlc wlx]) (m := 1) (by simp (disch := omega) [g0, -getElem?_pos, wrapI64, tdivN, tmodN, ipos, ineg, dpos, dneg, slc_l, slc_h, slc_lh, slc_hm, slc_lhm, slc_0, slcR_some, slcR_none, cutS_ok, cutA_ok, byteAt_ok]; first | done | (repeat' (first | rfl | apply And.intro))) ⟨_, rfl, by simp; first | done | (repeat' (first | rfl | apply And.intro))⟩ rfl (by kernel_rfl) (by kernel_rfl) (by refine ⟨by simp, ?_⟩; simp (disch := omega) [srcCells, cellsAt, g0, -getElem?_pos, wrapI64, tdivN, tmodN, ipos, ineg, dpos, dneg, slc_l, slc_h, slc_lh, slc_hm, slc_lhm, slc_0, slcR_some, slcR_none, cutS_ok, cutA_ok, byteAt_ok]; first | done | rfl) (by simp [g0]) (by simp [g0]) (by omega) (by omega) fun w1 H1 o1 b1 s1 => ?_
                    have hn1 := b1.1
                    simp only [Heap.next_push, Heap.next_set] at hn1 s1
                    obtain ⟨va, vc, vx, rfl, _⟩ := o1.form
                    refine walk (both g0 g14) ?_
                    have u1 : Upd (fun z => z = H'.next ∨ slBlock (AV.slice oa P'.length oc ox) = some z) Hy H1 := (((hux _).mono fun _ _ h => .inl h).push _).butOne b1 fun z hz _ => .inr hz
                    have u2 : Upd (fun z => slBlock lb = some z ∨ slBlock (AV.slice oa P'.length oc ox) = some z) H' H1 := (((huw _).mono fun _ _ h => .inl h).push _).butOne b1 fun z hz _ => .inr hz
                    have hnl : ∀ z, slBlock (AV.slice oa P'.length oc ox) = some z → H.next + 3 ≤ z := fun z hz => by have := (hbO z hz).1; omega
                    have hw1 : ∀ z, slBlock (AV.slice va (P'.length + 1) vc vx) = some z → Hs.next ≤ z ∧ (slBlock (AV.slice oa P'.length oc ox) = some z ∨ Hy.next < z) := fun z hz => by
                      rcases s1 with e | e
                      · exact ⟨(hbO z (e ▸ hz)).1, .inl (e ▸ hz)⟩
                      · rw [e] at hz; injection hz with hz; exact ⟨by omega, .inr (by omega)⟩
                    refine Roundq.normal (r.length + 1 - (i + 1)) (by omega) ⟨i + 1, B ++ y.b.take k, op2, P' ++ [⟨y.b.drop k, y'.l⟩], lb2, _, _, by omega, rfl, by simp [g0], by simp [g1], by simp [g8], by simp [g9], by simp [g10], by simp, by simp [g13], by simp, hU.trans u2 fun z hz h' => ?_, hBy.upd u1 fun z hz h' => ?_, by rw [List.length_append]; exact o1, ?_, fun z hz => ⟨(hlb2 z hz).1, by have := (hlb2 z hz).2.1; omega⟩, fun z hz => ⟨(hw1 z hz).1, o1.lt0 (by omega) z hz⟩, fun z hz e => ?_, hkb, by simp; omega, ?_⟩
                    · rcases h' with h' | h'
                      · exact ((hbB z h').1).resolve_right (by omega)
                      · have := (hbO z h').1; omega
                    · have q := hlb2 z hz
                      rcases h' with h' | h'
                      · exact q.2.2.1 h'
                      · exact q.2.2.2 h'
                    · refine (hR.upd u2 fun z hz h' => ?_).app (Rows.one (hpy H1 (u1.mono fun z _ h' => ?_)))
                      · rcases h' with h' | h'
                        · exact hoky z hz h'
                        · have := hok z hz; have := hnl z h'; omega
                      · rcases h' with h' | h'
                        · omega
                        · have := hnl z h'; omega
                    · have q := hlb2 z hz
                      rcases (hw1 z e).2 with h' | h'
                      · exact q.2.2.2 h'
                      · omega
                    · rw [hN, htk, List.append_assoc, List.append_assoc]; rfl
      · have hi1 : i = r.length + 1 := by omega
        have hdn : (⟨x.b, []⟩ :: r : List Part).drop i = [] := List.drop_eq_nil_of_le (by simp; omega)
        have tn : takeR n.toNat op B.length [] = ([], []) := rfl
        rw [hdn, tn] at htk
        simp only [List.append_nil] at htk
        have gP := (hU.keep (H.next + 2) (by omega) (by omega)).trans hT.gP
        have gT := (hU.keep H.next (by omega) (by omega)).trans hT.gT
        simp only [ord, Bool.false_eq_true, if_false] at gP
        have hT0 := hT.o0
        have hT1 := hT.o1
        have hv0 := hT.b0
        have hv1 := hT.b1
        clear hT
        generalize (x.l.take K) = A at *
        generalize (x.l.drop K) = C at *
        obtain ⟨p0, q0, s0⟩ := hT0
        obtain ⟨p1, q1, s1⟩ := hT1
        obtain ⟨a0, cap0, ex0, rfl, _⟩ := q0.form
        obtain ⟨a1, cap1, ex1, rfl, _⟩ := q1.form
        refine walk (both g0 (both g1 (both g8 (both g9 (both g10 (both g12 (both g13 (both g14 hlt)))))))) ?_
        refine Wq.regionD [0, 1, 2, 3, 4, 5] (by kernel_rfl) ?_
        refine walk (both g0 (both g1 (both g8 (both g9 (both g10 (both g12 (both g13 (both g14 (both hlt (both gP gT)))))))))) ?_
        have ux : Upd (fun z => z = H.next) H' (H'.set H.next (.cells [AV.slice a0 A.length cap0 ex0, AV.slice a1 C.length cap1 ex1] 65 true false)) := Upd.rfl.set _ (by omega) fun _ => rfl
        have uy : Upd (fun z => z = H.next ∨ z = H.next + 1) Hs (H'.set H.next (.cells [AV.slice a0 A.length cap0 ex0, AV.slice a1 C.length cap1 ex1] 65 true false)) := (hU.mono fun _ _ h => .inr h).trans ux fun z _ h => .inl h
        refine ⟨_, _, _, _, p0, p1, c2, rfl, hkp.trans ux fun z hz e => by omega, fun z hz => by (have := hbO z hz; simp; omega), ?_, ?_, ?_, q0.upd uy fun z hz => by (have := hv0 z hz; omega), s0.upd uy fun z hz => by (have := hok z hz; omega), q1.upd uy fun z hz => by (have := hv1 z hz; omega), s1.upd uy fun z hz => by (have := hok z hz; omega)⟩
        · rw [htk]; exact hO.upd ux fun z hz => by have := (hbO z hz).1; omega
        · rw [htk]; exact hR.upd ux fun z hz => by have := hok z hz; omega
        · rw [htk]; exact (hB.upd ux fun z hz => by have := (hbB z hz).1; omega).sl
end Go.Abs

/- Chapter 10: the reference's Put, walked. -/
namespace Go.Abs
open Go.Proofs
set_option maxRecDepth 100000
set_option linter.unusedVariables false
set_option linter.unusedSimpArgs false

def okR (H H' : Heap) (ok ok2 : Nat → Prop) (b : Nat) : Prop := ok b ∨ ok2 b ∨ (H.next ≤ b ∧ b < H'.next)
theorem set_same {α : Type} {l : List α} {i : Nat} {v : α} (h : l[i]? = some v) : l.set i v = l := by
  apply List.ext_getElem?
  intro j
  rw [List.getElem?_set]
  by_cases e : i = j
  · subst e
    have := lt_of_get? h
    rw [if_pos rfl, if_pos this, h]
  · rw [if_neg e]
set_option maxHeartbeats 4000000 in
theorem putR_ok {H : Heap} {ok ok2 : Nat → Prop} {lv vb vl : AV} {ql : List Part} {bs : List UInt8} {ls : List Pass} (most : Int) (h : List0 partS H ok lv ql) (hb : bytesS.R H ok2 [vb] bs) (hl : List0 passS H ok2 vl ls)
    (hok : ∀ b, ok b → b < H.next) (hok2 : ∀ b, ok2 b → b < H.next) (hm : (total ql : Int) ≤ most ∧ most ≤ 4096) (hmany : ql.length ≤ 16) (hbs : bs.length ≤ 1000) (hls : ls.length ≤ 1000) :
    Cl Try.prog pr10 28 [.int .i64 most, lv, vb, vl] H fun w H' => ∃ lv', w = .tuple [lv', .int .i64 (putQ most ql bs ls).2.1, .int .i64 (putQ most ql bs ls).2.2] ∧ Keep H H' ∧ List0 partS H' (okR H H' ok ok2) lv' (putQ most ql bs ls).1 := by
  obtain ⟨vb', e, hbS, hbo, hbm⟩ := hb
  injection e with e _; subst e
  obtain ⟨ba, bc, bx, rfl, hbc, hbx⟩ := hbS.form
  obtain ⟨la, lc, lx, rfl, hlc, hlx, hlm⟩ := hl.form
  obtain ⟨a, cap, ex, rfl, k1, m1, n1⟩ := h.form
  have hno : ∀ H', H' = H → Keep H H' ∧ List0 partS H' (okR H H' ok ok2) (AV.slice a ql.length cap ex) ql := fun H' e => by
    subst e; exact ⟨Upd.rfl, h.mono fun _ h => .inl h⟩
  refine Cl.enter Try.func28 rfl rfl Try.ntmps28 (by simp) ?_
  by_cases c1 : bs = []
  · subst c1
    refine walk none0 ?_
    exact ⟨AV.slice a ql.length cap ex, by simp [putQ], by simpa [putQ] using hno _ rfl⟩
  · have hb0 : 0 < bs.length := List.length_pos_iff.2 c1
    by_cases c2 : 4 < ls.length
    · refine walk (both c1 c2) ?_
      exact ⟨AV.slice a ql.length cap ex, by simp [putQ, c2], by simpa [putQ, c2] using hno _ rfl⟩
    · refine walk (both c1 c2) ?_
      refine (lenP_ok h (by omega)).mono fun w H1 _ ⟨e1, e2⟩ => ?_
      subst e1; subst e2
      refine walkr none0 ?_
      refine Wq.seq (Wq.mono (Q := fun z e2 Hx => z = .normal ∧ Hx = H1 ∧ e2 1 = .slice a ql.length cap ex ∧ e2 2 = .slice ba bs.length bc bx ∧ e2 3 = .slice la ls.length lc lx ∧ e2 11 = .int .i64 (min (bs.length : Int) (most - (total ql : Nat)))) ?_ ?_)
      · by_cases c3 : (bs.length : Int) < most - (total ql : Nat)
        · have c4 : min (bs.length : Int) (most - (total ql : Nat)) = bs.length := by omega
          refine walk c3 ?_
          exact ⟨rfl, rfl, by simp, by simp, by simp, by simp [c4]⟩
        · have c4 : min (bs.length : Int) (most - (total ql : Nat)) = most - (total ql : Nat) := by omega
          refine walk c3 ?_
          exact ⟨rfl, rfl, by simp, by simp, by simp, by simp [c4]⟩
      · rintro z e2 Hx _ ⟨rfl, e, g1, g2, g3, g11⟩
        obtain rfl : H1 = Hx := e.symm
        refine Thenq.normal ?_
        have hkl : min (bs.length : Int) (most - (total ql : Nat)) ≤ bs.length := by omega
        have hkz : min (bs.length : Int) (most - (total ql : Nat)) = 0 ↔ most - (total ql : Nat) = 0 := by omega
        have hk0 : 0 ≤ min (bs.length : Int) (most - (total ql : Nat)) := by omega
        have hkt : bs.take (most - (total ql : Nat)).toNat = bs.take (min (bs.length : Int) (most - (total ql : Nat))).toNat := by
          rcases Int.le_total (bs.length : Int) (most - (total ql : Nat)) with h' | h'
          · rw [List.take_of_length_le (by omega), List.take_of_length_le (by omega)]
          · congr 1; omega
        have hput : putQ most ql bs ls = if most - total ql = 0 ∨ (ls ≠ [] ∨ ql = []) ∧ 16 ≤ ql.length then (ql, 0, 35) else (lastB (if ls ≠ [] ∨ ql = [] then ql ++ [⟨[], ls⟩] else ql) (bs.take (min (bs.length : Int) (most - (total ql : Nat))).toNat), min (bs.length : Int) (most - (total ql : Nat)), 0) := by
          simp only [putQ]; rw [if_neg (by simp [c1]; omega), hkt]
        have hkle : (min (bs.length : Int) (most - (total ql : Nat))) ≤ most - (total ql : Nat) := by omega
        generalize hk : min (bs.length : Int) (most - (total ql : Nat)) = k at *
        refine walkr g1 ?_
        refine Wq.seq (Wq.mono (Q := fun z e2 Hx => z = .normal ∧ Hx = H1 ∧ e2 1 = .slice a ql.length cap ex ∧ e2 2 = .slice ba bs.length bc bx ∧ e2 3 = .slice la ls.length lc lx ∧ e2 11 = .int .i64 k ∧ e2 12 = .bool (decide (ls ≠ [] ∨ ql = []))) ?_ ?_)
        · by_cases c3 : ls = []
          · have c3' : ls.length = 0 := by rw [c3]; rfl
            by_cases c4 : ql = []
            · have c4' : ql.length = 0 := by rw [c4]; rfl
              refine walk (both g1 (both g2 (both g3 (both g11 (both c3' c4'))))) ?_
              exact ⟨rfl, rfl, by simp [g1, c4'], by simp [g2], by simp [g3, c3'], by simp [g11], by simp [c3, c4]⟩
            · have c4' : 0 < ql.length := List.length_pos_iff.2 c4
              refine walk (both g1 (both g2 (both g3 (both g11 (both c3' c4'))))) ?_
              exact ⟨rfl, rfl, by simp [g1], by simp [g2], by simp [g3, c3'], by simp [g11], by simp [c3, c4]⟩
          · have c3' : 0 < ls.length := List.length_pos_iff.2 c3
            refine walk (both g1 (both g2 (both g3 (both g11 c3')))) ?_
            exact ⟨rfl, rfl, by simp [g1], by simp [g2], by simp [g3], by simp [g11], by simp [c3]⟩
        · rintro z e2 Hx _ ⟨rfl, e, g1, g2, g3, g11, g12⟩
          obtain rfl : H1 = Hx := e.symm
          refine Thenq.normal ?_
          generalize hbg : decide (ls ≠ [] ∨ ql = []) = bg at *
          have hret : (most - (total ql : Nat) = 0 ∨ bg = true ∧ 16 ≤ ql.length) → ∃ lv', AV.tuple [AV.slice a ql.length cap ex, AV.int IntKind.i64 0, AV.int IntKind.i64 35] = AV.tuple [lv', .int .i64 (putQ most ql bs ls).2.1, .int .i64 (putQ most ql bs ls).2.2] ∧ Keep H1 H1 ∧ List0 partS H1 (okR H1 H1 ok ok2) lv' (putQ most ql bs ls).1 := by
            intro hc
            have hc' : most - total ql = 0 ∨ (ls ≠ [] ∨ ql = []) ∧ 16 ≤ ql.length := hc.imp id fun ⟨e1, e2⟩ => ⟨of_decide_eq_true (hbg.trans e1), e2⟩
            have e3 : putQ most ql bs ls = (ql, 0, 35) := by rw [hput, if_pos hc']
            rw [e3]
            exact ⟨_, rfl, hno H1 rfl⟩
          by_cases c3 : k = 0
          · refine walk (both g1 (both g2 (both g3 (both g11 (both g12 c3))))) ?_
            exact hret (.inl (hkz.1 c3))
          · by_cases c4 : bg = true ∧ 16 ≤ ql.length
            · obtain ⟨rfl, c5⟩ := c4
              refine walk (both g1 (both g2 (both g3 (both g11 (both g12 (both c3 c5)))))) ?_
              exact hret (.inr ⟨rfl, c5⟩)
            · clear hret
              refine Wq.seq (Wq.mono (Q := fun z e2 Hx => z = .normal ∧ Hx = H1 ∧ e2 1 = .slice a ql.length cap ex ∧ e2 2 = .slice ba bs.length bc bx ∧ e2 3 = .slice la ls.length lc lx ∧ e2 11 = .int .i64 k ∧ e2 12 = .bool bg) ?_ ?_)
              · cases hb : bg with
                | true =>
                  have c5 : ql.length < 16 := by
                    rcases Nat.lt_or_ge ql.length 16 with h | h
                    · exact h
                    · exact absurd ⟨hb, h⟩ c4
                  subst hb
                  refine walk (both g1 (both g2 (both g3 (both g11 (both g12 (both c3 c5)))))) ?_
                  exact ⟨rfl, rfl, by simp [g1], by simp [g2], by simp [g3], by simp [g11], by simp [g12]⟩
                | false =>
                  subst hb
                  refine walk (both g1 (both g2 (both g3 (both g11 (both g12 c3))))) ?_
                  exact ⟨rfl, rfl, by simp [g1], by simp [g2], by simp [g3], by simp [g11], by simp [g12]⟩
              · rintro z e2 Hx _ ⟨rfl, e, g1, g2, g3, g11, g12⟩
                obtain rfl : H1 = Hx := e.symm
                refine Thenq.normal ?_
                have hpos : ¬ (most - total ql = 0 ∨ (ls ≠ [] ∨ ql = []) ∧ 16 ≤ ql.length) := by
                  rintro (h' | ⟨h', h''⟩)
                  · exact c3 (hkz.2 h')
                  · exact c4 ⟨by rw [← hbg]; exact decide_eq_true h', h''⟩
                have hput3 : putQ most ql bs ls = (lastB (if bg = true then ql ++ [⟨[], ls⟩] else ql) (bs.take k.toNat), k, 0) := by
                  rw [hput, if_neg hpos, ← hbg]; simp
                rw [hput3]
                clear hput hput3
                obtain ⟨cq, hS, _, _, hr⟩ := h.open
                refine walk g1 ?_
                refine Oq.appendG (own := (FreshG.made (H0 := H1) (cs := []) (n := 0) (elem := 38) (s := 2) (Upd.rfl.push _) (by simp) (Nat.le_refl _) (by simp) (by simp)).own) (new := cq) (m := ql.length) (by simp (disch := omega) [g1, -getElem?_pos, wrapI64, tdivN, tmodN, ipos, ineg, dpos, dneg, slc_l, slc_h, slc_lh, slc_hm, slc_lhm, slc_0, slcR_some, slcR_none, cutS_ok, cutA_ok, byteAt_ok]; first | done | (repeat' (first | rfl | apply And.intro))) ⟨_, rfl, by simp; first | done | (repeat' (first | rfl | apply And.intro))⟩ rfl (by kernel_rfl) (by kernel_rfl) ((hS.push _).src') hS.len hr.all1 (by omega) (by omega) fun w1 H2 o1 b1 s1 => ?_
                have hF1 := (FreshG.made (H0 := H1) (cs := []) (n := 0) (elem := 38) (s := 2) (Upd.rfl.push _) (by simp) (Nat.le_refl _) (by simp) (by simp)).app o1 b1 s1
                simp only [Nat.zero_add, List.nil_append] at hF1
                have hr1 := hr.kept hF1.keep
                clear o1 b1 s1
                refine walkr g1 ?_
                refine Wq.seq (Wq.mono (Q := fun z e2 Hx => z = .normal ∧ (∃ lo co, e2 13 = lo ∧ FreshG H1 Hx 38 2 lo (if bg = true then ql ++ [⟨[], ls⟩] else ql).length co ∧ Rows partS Hx (okR H1 H1 ok ok2) co (if bg = true then ql ++ [⟨[], ls⟩] else ql)) ∧ e2 2 = .slice ba bs.length bc bx ∧ e2 11 = .int .i64 k) ?_ ?_)
                · cases hb : bg with
                  | true =>
                    subst hb
                    obtain ⟨wa, wc, wx, rfl, _⟩ := hF1.own.form
                    refine walk (both g1 (both g2 (both g3 (both g11 g12)))) ?_
                    refine Oq.appendG (own := (hF1.own.kept (Upd.rfl.push _))) (new := [.slice none 0 0 none, .slice la ls.length lc lx]) (m := 1) (by simp (disch := omega) [g1, -getElem?_pos, wrapI64, tdivN, tmodN, ipos, ineg, dpos, dneg, slc_l, slc_h, slc_lh, slc_hm, slc_lhm, slc_0, slcR_some, slcR_none, cutS_ok, cutA_ok, byteAt_ok]; first | done | (repeat' (first | rfl | apply And.intro))) ⟨_, rfl, by simp; first | done | (repeat' (first | rfl | apply And.intro))⟩ rfl (by kernel_rfl) (by kernel_rfl) (by refine ⟨by simp, ?_⟩; simp (disch := omega) [srcCells, cellsAt, g1, -getElem?_pos, wrapI64, tdivN, tmodN, ipos, ineg, dpos, dneg, slc_l, slc_h, slc_lh, slc_hm, slc_lhm, slc_0, slcR_some, slcR_none, cutS_ok, cutA_ok, byteAt_ok]; first | done | rfl) (by simp [g1]) (by simp [g1]) (by omega) (by omega) fun w1 H3 o3 b3 s3 => ?_
                    have hF3 := (hF1.then (Upd.rfl.push _)).app o3 b3 s3
                    refine walk g2 ?_
                    refine ⟨rfl, ⟨_, _, by simp; rfl, by simpa using hF3, ?_⟩, by simp [g2], by simp [g11]⟩
                    have ku : Upd (fun z => H1.next ≤ z) H2 H3 := (Upd.rfl.push _).butOne b3 fun z hz _ => hF1.new z hz
                    refine ((hr1.upd ku fun z hz => by have := hok z hz; omega).mono fun _ h => .inl h).app1 (part_mk (x := ⟨[], ls⟩) ⟨_, rfl, Sl.nil, by simp [slBlock], by simp⟩ ?_)
                    exact ((hl.kept hF1.keep).upd ku fun z hz => by have := hok2 z hz; omega).mono fun _ h => .inr (.inl h)
                  | false =>
                    subst hb
                    refine walk (both g1 (both g2 (both g3 (both g11 g12)))) ?_
                    exact ⟨rfl, ⟨_, _, by simp; rfl, by simpa using hF1, hr1.mono fun _ h => .inl h⟩, by simp [g2], by simp [g11]⟩
                · rintro z e2 Hx _ ⟨rfl, ⟨lo, co, g13, hF, hR⟩, g2, g11⟩
                  refine Thenq.normal ?_
                  obtain ⟨l0, x, hql⟩ : ∃ l0 x, (if bg = true then ql ++ [(⟨[], ls⟩ : Part)] else ql) = l0 ++ [x] := by
                    cases hb : bg with
                    | true => exact ⟨ql, ⟨[], ls⟩, by simp⟩
                    | false =>
                      have hne : ql ≠ [] := by
                        rintro rfl
                        rw [hb] at hbg
                        have := of_decide_eq_false hbg
                        simp at this
                      exact ⟨ql.dropLast, ql.getLast hne, by simp [List.dropLast_concat_getLast hne]⟩
                  have hl0 : l0.length + 1 ≤ 17 := by
                    have := congrArg List.length hql
                    have e9 : (l0 ++ [x]).length = l0.length + 1 := by simp
                    rw [e9] at this
                    cases hb : bg with
                    | true => rw [hb] at this; simp at this; omega
                    | false => rw [hb] at this; simp at this; omega
                  have htl : total l0 + x.b.length = total ql := by
                    have := congrArg total hql
                    rw [total_app] at this
                    cases hb : bg with
                    | true => rw [hb] at this; simp [total_app, total] at this ⊢; omega
                    | false => rw [hb] at this; simp [total] at this ⊢; omega
                  rw [hql] at hF hR ⊢
                  rw [lastB_snoc]
                  clear hql
                  obtain ⟨a1, cap1, ex1, rfl, hcap1, hex1⟩ := hF.own.form
                  obtain ⟨b1, o1, d1, rfl, _, _, hb1, hb2, hb5, hb3, hb4⟩ := hF.own.at (by simp)
                  obtain ⟨vb, vl, x0, x1, f0, f1, hbb, f3⟩ := part_at (i := l0.length) (x := x) hR (by simp) hb4
                  obtain ⟨vb', e, hSx, hox, hmx⟩ := id hbb
                  injection e with e _; subst e
                  have hlen1 : (l0 ++ [x]).length = l0.length + 1 := by simp
                  simp only [hlen1] at hb3 hcap1 hb5 hb4 g13
                  obtain ⟨va, vc, vx, rfl, _⟩ := hSx.form
                  obtain ⟨vla, vlc, vlx, rfl, _⟩ := f3.form
                  have hbn : H1.next ≤ b1 := hF.new b1 rfl
                  have hbS2 := hbS.kept hF.keep
                  obtain ⟨b2, o2, _, _, _, _, rfl, _⟩ := hbS.at hb0
                  have hsub := hbS2.sub (k := 0) (m := k.toNat) (cap' := bc) (ex' := bx) (by omega) (by omega) hbx
                  simp only [Nat.zero_mul, Nat.add_zero, List.drop_zero, Nat.mul_one, bytes_take] at hsub
                  have hlk : (bs.take k.toNat).length = k.toNat := by rw [List.length_take]; omega
                  refine walk (both g2 (both g11 g13)) ?_
                  refine Wq.regionM [(2, 0), (3, 0), (4, 0), (5, 0), (6, 0), (7, 0), (8, 0), (9, 0), (10, 0), (11, 0), (12, 0), (0, 0), (1, 0), (13, 0), (14, 0), (15, 0), (16, 0), (17, 3), (18, 0), (19, 0), (20, 0)] (by kernel_rfl) ?_
                  refine mwalk (both g2 (both g11 (both g13 (both hb2 x0)))) ?_
                  have k1 : Keep Hx (Hx.push (.cells [] 5 true false)) := Upd.rfl.push _
                  refine Dq.appendG (own := (.empty _)) (new := cellsOfBytes x.b) (q := x.b.length) rfl met_none (by simp (disch := omega) [g2, -getElem?_pos, wrapI64, tdivN, tmodN, ipos, ineg, dpos, dneg, slc_l, slc_h, slc_lh, slc_hm, slc_lhm, slc_0, slcR_some, slcR_none, cutS_ok, cutA_ok, byteAt_ok]; first | done | (repeat' (first | rfl | apply And.intro))) ⟨_, rfl, by simp; first | done | (repeat' (first | rfl | apply And.intro))⟩ rfl (by kernel_rfl) (by kernel_rfl) ((hSx.kept k1).src') (by simp) (cellsOfBytes_one _) (by omega) (by omega) fun w1 H3 q3 b3 s3 => ?_
                  have k3 : Keep Hx H3 := k1.butOne b3 fun z hz hl => by simp [slBlock] at hz; omega
                  have hw1n : ∀ z, slBlock w1 = some z → Hx.next ≤ z := fun z hz => by
                    rcases s3 with e | e
                    · rw [e] at hz; simp [slBlock] at hz; omega
                    · rw [e] at hz; simp at hz; omega
                  simp only [Nat.zero_add, List.nil_append] at q3
                  have hb23 := (k3.get hb1).trans hb2
                  obtain ⟨wa, wc, wx, rfl, _⟩ := q3.form
                  refine mwalk (both g2 (both g11 (both g13 (both hbx hkl)))) ?_
                  refine Dq.appendG (own := q3) (new := cellsOfBytes (bs.take k.toNat)) (q := k.toNat) rfl met_none (by simp (disch := omega) [g2, -getElem?_pos, wrapI64, tdivN, tmodN, ipos, ineg, dpos, dneg, slc_l, slc_h, slc_lh, slc_hm, slc_lhm, slc_0, slcR_some, slcR_none, cutS_ok, cutA_ok, byteAt_ok]; first | done | (repeat' (first | rfl | apply And.intro))) ⟨_, rfl, by simp; first | done | (repeat' (first | rfl | apply And.intro))⟩ rfl (by kernel_rfl) (by kernel_rfl) ((hsub.kept k3).src') (by simp; omega) (cellsOfBytes_one _) (by omega) (by omega) fun w2 H4 q4 b4 s4 => ?_
                  have k4 : Keep Hx H4 := k3.butOne b4 fun z hz hl => by have := hw1n z hz; omega
                  have hb24 := (k4.get hb1).trans hb2
                  have hw2n : ∀ z, slBlock w2 = some z → Hx.next ≤ z := fun z hz => by
                    rcases s4 with e | e
                    · exact hw1n z (e ▸ hz)
                    · rw [e] at hz; injection hz with hz; have := k3.next; omega
                  obtain ⟨wa2, wc2, wx2, rfl, _⟩ := q4.form
                  refine mwalk (both g2 (both g11 (both g13 (both hb2 (both hb23 (both hb24 (both x1 hl0))))))) ?_
                  have e7 : (d1.set (o1 + l0.length * 2) (AV.slice wa2 (x.b.length + k.toNat) wc2 wx2)).set (o1 + l0.length * 2 + 1) (AV.slice vla x.l.length vlc vlx) = d1.set (o1 + l0.length * 2) (AV.slice wa2 (x.b.length + k.toNat) wc2 wx2) :=
                    set_same (by rw [List.getElem?_set_ne (by omega)]; exact x1)
                  rw [e7]
                  generalize hnv : AV.slice wa2 (x.b.length + k.toNat) wc2 wx2 = nv at *
                  refine Thenq.normal ?_
                  generalize hHb : Heap.set H4 _ _ = Hb
                  have hn4 := k4.next
                  have hu : Upd (fun z => z = b1) Hx Hb := by subst hHb; exact (Upd.of k4).set _ (by omega) fun _ => rfl
                  have gb : Hb.get b1 = some (.cells (d1.set (o1 + l0.length * 2) nv) 38 true false) := by subst hHb; simp
                  have nb : Hb.next = H4.next := by subst hHb; simp
                  have hg4 : ∀ z, z ≠ b1 → Hb.get z = H4.get z := fun z hz => by subst hHb; rw [Heap.get_set, if_neg hz]
                  clear hHb
                  refine walk (both g2 (both g11 g13)) ?_
                  have hHn := hF.keep.next
                  have hoklt : ∀ z, okR H1 H1 ok ok2 z → z < H1.next := fun z hz => by
                    rcases hz with hz | hz | hz
                    · exact hok z hz
                    · exact hok2 z hz
                    · exact hz.2
                  have hmono : ∀ z, okR H1 H1 ok ok2 z → okR H1 Hb ok ok2 z := fun z hz => by
                    rcases hz with hz | hz | hz
                    · exact .inl hz
                    · exact .inr (.inl hz)
                    · omega
                  have hset : ((d1.set (o1 + l0.length * 2) nv).drop o1).take ((l0.length + 1) * 2) = co.set (l0.length * 2) nv := set_sub (i := l0.length * 2) (v := nv) hb4 (by omega)
                  have hRf := OwnG.refill (H' := Hb) (elem := 38) (s := 2) (n := l0.length + 1) (cap := cap1) (b := b1) (o := o1) (ex := ex1) hcap1 hex1 (by omega) gb (by rw [List.length_set]; omega)
                  rw [hset] at hRf
                  have hw2lt : ∀ z, slBlock nv = some z → z < H4.next := q4.lt0 (by omega)
                  have hSb : bytesS.R Hb (okR H1 Hb ok ok2) [nv] (x.b ++ bs.take k.toNat) := by
                    have q := q4.sl
                    rw [bytes_app] at q
                    refine ⟨nv, rfl, ?_, fun z hz _ => .inr (.inr ⟨by have := hw2n z hz; omega, by have := hw2lt z hz; omega⟩), by rw [List.length_append, hlk]; unfold maxLen; omega⟩
                    rw [List.length_append, hlk]
                    exact q.keep (by omega) fun z hz _ _ => hg4 z (by have := hw2n z hz; omega)
                  have hP : partS.R Hb (okR H1 Hb ok ok2) (((co.drop (l0.length * partS.s)).take partS.s).set 0 nv) ⟨x.b ++ bs.take k.toNat, x.l⟩ := by
                    rw [partS_s, f0]
                    exact part_mk hSb ((f3.upd hu fun z hz => by have := hoklt z hz; omega).mono hmono)
                  have hrr := ((hR.upd hu fun z hz => by have := hoklt z hz; omega).mono hmono).put (i := l0.length) (k := 0) (by simp) (by decide) hP
                  simp only [partS_s, Nat.add_zero, List.set_append_right _ _ (Nat.le_refl _), Nat.sub_self, List.set_cons_zero] at hrr
                  refine ⟨_, rfl, hF.keep.trans hu fun z hz e => by omega, List0.mk (c := co.set (l0.length * 2) nv) (by simpa using hRf.sl) (fun z hz _ => .inr (.inr ?_)) (by simp; unfold maxLen; omega) hrr⟩
                  simp [slBlock] at hz; omega
end Go.Abs

/- Chapter 10: what is passed, made; QueueNews. -/
namespace Go.Abs
open Go.Proofs
set_option maxRecDepth 100000
set_option linter.unusedVariables false
set_option linter.unusedSimpArgs false

theorem passed_ok (n k : Int) (H : Heap) (hk0 : 0 ≤ k) (hk : k ≤ 10000) (hn1 : -9223372036854775808 ≤ n) (hn2 : n ≤ 9223372036854775807) :
    Cl Try.prog pr10 10 [.int .i64 n, .int .i64 k] H fun w H' => ∃ ls c, ls.length ≤ 6 ∧ FreshG H H' 60 5 w ls.length c ∧ (∀ z, slBlock w = some z → z < H'.next) ∧ Rows passS H' (fun b => False ∨ okN H H' w b) c ls := by
  refine Cl.enter Try.func10 rfl rfl Try.ntmps10 (by simp) ?_
  refine walk none0 ?_
  refine Wq.loop (fun m e H' => ∃ ls c w, ls.length ≤ 6 ∧ m = 6 - ls.length ∧ e 0 = .int .i64 n ∧ e 1 = .int .i64 k ∧ e 5 = w ∧ e 6 = .int .i64 ls.length ∧ FreshG H H' 60 5 w ls.length c ∧ (∀ z, slBlock w = some z → z < H'.next) ∧ Rows passS H' (fun b => False ∨ okN H H' w b) c ls) 6 ?_ ?_
  · exact ⟨[], [], .slice (some (H.next, 0)) 0 0 none, by simp, by simp, by simp, by simp, by simp, by simp, FreshG.made (Upd.rfl.push (.cells [] 60 true false)) (by simp) (Nat.le_refl _) (by simp) (by simp), by simp [slBlock], Rows.nil⟩
  · rintro m e H' ⟨ls, c, w, hl, rfl, g0, g1, g5, g6, hF, hw, hR⟩
    by_cases h1 : (ls.length : Int) < n
    · by_cases h2 : (ls.length : Int) < 6
      · obtain ⟨wa, wc, wx, rfl, _⟩ := hF.own.form
        refine walk (both g0 (both g1 (both g5 (both g6 (both h1 h2))))) ?_
        generalize hcs : [AV.int IntKind.i64 (k + ls.length), AV.int IntKind.u32 (IntKind.u32.wrap k), AV.bool false, AV.slice (some (H'.next, 0)) 1 1 none, AV.int IntKind.i64 ls.length] = cs
        have kk : Keep H' ((H'.push (.cells [.int .i64 ls.length] 3 true false)).push (.cells cs 60 true false)) := (Upd.rfl.push _).push _
        have hone : cs.all AV.one = true := by rw [← hcs]; rfl
        have hlen : cs.length = 5 := by rw [← hcs]; rfl
        refine Oq.appendG (own := (hF.then kk).own) (new := cs) (m := 1) (by simp (disch := omega) [g0, -getElem?_pos, wrapI64, tdivN, tmodN, ipos, ineg, dpos, dneg, slc_l, slc_h, slc_lh, slc_hm, slc_lhm, slc_0, slcR_some, slcR_none, cutS_ok, cutA_ok, byteAt_ok]; first | done | (repeat' (first | rfl | apply And.intro))) ⟨_, rfl, by simp; first | done | (repeat' (first | rfl | apply And.intro))⟩ rfl (by kernel_rfl) (by kernel_rfl) ((by refine ⟨by simp, ?_⟩; simp (disch := omega) [srcCells, cellsAt, hlen]; exact List.take_of_length_le (by omega))) (by rw [hlen]) hone (by omega) (by omega) fun w1 H1 o1 b1 s1 => ?_
        have hn1 := b1.1
        simp only [Heap.next_push] at hn1
        have hs1 : slBlock w1 = slBlock (AV.slice wa ls.length wc wx) ∨ slBlock w1 = some (H'.next + 1 + 1) := s1
        have hFn := hF.keep.next
        have ku : Upd (fun z => slBlock (AV.slice wa ls.length wc wx) = some z) ((H'.push (.cells [.int .i64 ls.length] 3 true false)).push (.cells cs 60 true false)) H1 := Upd.rfl.butOne b1 fun z hz _ => hz
        have gi : H1.get H'.next = some (.cells [.int .i64 ls.length] 3 true false) := by
          rw [ku.keep H'.next (by simp; omega) (fun e => by have := hw _ e; omega)]; simp
        have hp : passS.R H1 (fun b => False ∨ okN H H1 w1 b) cs ⟨k + ls.length, IntKind.u32.wrap k, false, [(ls.length : Int)], ls.length⟩ := by
          rw [← hcs]
          refine pass_mk (x := ⟨k + ls.length, IntKind.u32.wrap k, false, [(ls.length : Int)], ls.length⟩) ?_ ?_ ?_ ?_
          · simp [Lit.wf, IntKind.min, IntKind.max, IntKind.signed, IntKind.bits]; omega
          · exact wf_wrap _ _
          · simp [Lit.wf, IntKind.min, IntKind.max, IntKind.signed, IntKind.bits]; omega
          · refine List0.mk (c := [.int .i64 ls.length]) ?_ (fun z hz _ => .inr ?_) (by simp; unfold maxLen; omega) (Rows.one ⟨rfl, by simp [Lit.wf, IntKind.min, IntKind.max, IntKind.signed, IntKind.bits]; omega⟩)
            · exact (OwnSl.mk (n := 1) (elem := 3) (by simp) (by omega) gi).sl
            · simp [slBlock] at hz; subst hz
              refine ⟨hFn, by omega, ?_⟩
              rcases hs1 with e | e
              · rw [e]; intro e; have := hw _ e; omega
              · rw [e]; intro e; injection e with e; omega
        refine walk (both g0 g6) ?_
        refine Roundq.normal (6 - (ls.length + 1)) (by omega) ⟨ls ++ [⟨k + ls.length, IntKind.u32.wrap k, false, [(ls.length : Int)], ls.length⟩], _, w1, by simp; omega, by simp, by simp [g0], by simp [g1], by simp, by simp, by simpa using (hF.then kk).app o1 b1 s1, o1.lt0 (by omega), ?_⟩
        exact ((hR.growK kk).grow (by simp; omega) (fun _ h => h.elim) hF.new b1 s1).app1 hp
      · refine walk (both g0 (both g1 (both g5 (both g6 (both h1 h2))))) ?_
        exact ⟨ls, c, hl, hF, hw, hR⟩
    · refine walk (both g0 (both g1 (both g5 (both g6 h1)))) ?_
      exact ⟨ls, c, hl, hF, hw, hR⟩

theorem convR_same {P : Program} {t e : TypeId} {b o n c : Nat} {ex : Option Nat} {H : Heap} {cs : List AV} {el : TypeId} {mk : Bool} (hu : P.underlying t = some (.slice e)) (he : P.underlying e = some (.int .u8)) (hc : 0 < c) (hg : H.get b = some (.cells cs el true mk)) :
    convR P t t (some (.slice (some (b, o)) n c ex)) H = some (.slice (some (b, o)) n c ex, H.set b (.cells cs el true true)) := by
  unfold convR
  simp only [convSem, hu, he]
  rw [if_pos ⟨trivial, hc⟩]
  simp only [Sm.run, hg]
theorem queueNews_main (most k n m : Int) (vb : AV) (H : Heap) (hm1 : -9223372036854775808 ≤ most) (hm2 : most ≤ 9223372036854775807) (hvb : ∃ a l c x, vb = .slice a l c x) :
    Cl Try.prog pr10 6 [.int .i64 most, .agg [.int .i64 k, vb, .int .i64 n, .int .i64 m]] H fun v _ => v = .bool true := by
  obtain ⟨a, l, c, x, rfl⟩ := hvb
  refine Cl.enter Try.func6 rfl rfl Try.ntmps6 (by simp) ?_
  by_cases h : 1 ≤ most ∧ most ≤ 4096
  · refine walk h ?_
    refine Cl.wfK ((new_yes most h _).mono fun v H1 hn1 ⟨e, hk, hQ⟩ hw1 => ?_)
    subst e
    refine walk h ?_
    have h0 : total [] = 0 := rfl
    refine (len_some hQ).mono fun v H2 _ ⟨e1, e2⟩ => ?_
    subst e1; subst e2
    refine walk (both h h0) ?_
    refine (room_some hQ).mono fun v H2 _ ⟨e1, e2⟩ => ?_
    subst e1; subst e2
    refine walk (both h h0) ?_
    refine (next_some hQ).mono fun v H2 _ ⟨e1, e2⟩ => ?_
    subst e1; subst e2
    refine walk (both h h0) ?_
    refine Cl.prim (v := .bool true) (H' := H2) rfl rfl ?_
    refine walk (both h h0) ?_
    exact rfl
  · have h0 : total [] = 0 := rfl
    refine walk h ?_
    have hcv : ∀ A, convR Try.prog 25 25 (some (.slice (some (H.next + 1, 0)) 1 1 none)) ((H.push A).push (.cells [.int .u8 120] 5 true false)) = some (.slice (some (H.next + 1, 0)) 1 1 none, ((H.push A).push (.cells [.int .u8 120] 5 true false)).set (H.next + 1) (.cells [.int .u8 120] 5 true true)) := fun A => convR_same (mk := false) Try.underlying25 Try.underlying5 (by decide) (by simp)
    refine (new_no most h _).mono fun v H1 hn1 ⟨e1, e2⟩ => ?_
    subst e1; subst e2
    by_cases h1 : 1 ≤ most
    · have h2 : ¬ most ≤ 4096 := fun h' => h ⟨h1, h'⟩
      refine walk (both h1 (both h2 hcv)) ?_
      refine (put_nil _ _ _).mono fun v H3 _ ⟨e1, e2⟩ => ?_
      subst e1; subst e2
      refine walk h0 ?_
      refine (take_nil _ _ _).mono fun v H4 _ ⟨e1, e2⟩ => ?_
      subst e1; subst e2
      refine walk h0 ?_
      refine (len_nil _).mono fun v H5 _ ⟨e1, e2⟩ => ?_
      subst e1; subst e2
      refine walk h0 ?_
      refine (room_nil _).mono fun v H6 _ ⟨e1, e2⟩ => ?_
      subst e1; subst e2
      refine walk h0 ?_
      refine (next_nil _).mono fun v H7 _ ⟨e1, e2⟩ => ?_
      subst e1; subst e2
      refine walk h0 ?_
      refine (clear_nil _).mono fun v H8 _ ⟨e1, e2⟩ => ?_
      subst e1; subst e2
      refine walk h0 ?_
      refine (dump_nil _).mono fun v H9 _ ⟨e1, e2⟩ => ?_
      subst e1; subst e2
      refine walk h0 ?_
      refine Cl.prim (v := .bool true) rfl rfl ?_
      refine walk h0 ?_
      exact rfl
    · refine walk (both h1 hcv) ?_
      refine (put_nil _ _ _).mono fun v H3 _ ⟨e1, e2⟩ => ?_
      subst e1; subst e2
      refine walk h0 ?_
      refine (take_nil _ _ _).mono fun v H4 _ ⟨e1, e2⟩ => ?_
      subst e1; subst e2
      refine walk h0 ?_
      refine (len_nil _).mono fun v H5 _ ⟨e1, e2⟩ => ?_
      subst e1; subst e2
      refine walk h0 ?_
      refine (room_nil _).mono fun v H6 _ ⟨e1, e2⟩ => ?_
      subst e1; subst e2
      refine walk h0 ?_
      refine (next_nil _).mono fun v H7 _ ⟨e1, e2⟩ => ?_
      subst e1; subst e2
      refine walk h0 ?_
      refine (clear_nil _).mono fun v H8 _ ⟨e1, e2⟩ => ?_
      subst e1; subst e2
      refine walk h0 ?_
      refine (dump_nil _).mono fun v H9 _ ⟨e1, e2⟩ => ?_
      subst e1; subst e2
      refine walk h0 ?_
      refine Cl.prim (v := .bool true) rfl rfl ?_
      refine walk h0 ?_
      exact rfl
end Go.Abs

/- Chapter 10: the acts that come in; the two Takes are one; the act done to both. -/
namespace Go.Abs
open Go.Proofs
set_option maxRecDepth 100000
set_option linter.unusedVariables false
set_option linter.unusedSimpArgs false

structure QAct where
  kind : Int
  b : List UInt8
  n : Int
  most : Int
def qactS : Shape QAct := viaS (pairS (intS .i64) (pairS bytesS (pairS (intS .i64) (intS .i64)))) fun x => (x.kind, x.b, x.n, x.most)
@[simp] theorem qactS_s : qactS.s = 4 := rfl
theorem qact_open {H : Heap} {ok : Nat → Prop} {cs : List AV} {x : QAct} (h : qactS.R H ok cs x) : ∃ v, cs = [.int .i64 x.kind, v, .int .i64 x.n, .int .i64 x.most] ∧ bytesS.R H ok [v] x.b ∧ (-9223372036854775808 ≤ x.n ∧ x.n ≤ 9223372036854775807) ∧ (-9223372036854775808 ≤ x.most ∧ x.most ≤ 9223372036854775807) := by
  obtain ⟨_, _, rfl, ⟨rfl, w1⟩, _, _, rfl, ⟨v, rfl, h⟩, _, _, rfl, ⟨rfl, w2⟩, rfl, w3⟩ := h
  exact ⟨v, rfl, ⟨v, rfl, h⟩, i64_wf w2, i64_wf w3⟩
theorem qact_of {H : Heap} {cs : List AV} (h : Pic Try.prog H 3 27 cs) : ∃ x, qactS.R H (fun b => b < H.next) cs x := by
  unfold Pic at h
  simp only [Try.underlying27] at h
  obtain ⟨hl, hf⟩ := h
  have c3 : Try.prog.cellsOf 3 = 1 := by kernel_rfl
  have c25 : Try.prog.cellsOf 25 = 1 := by kernel_rfl
  have c27 : Try.prog.cellsOf 27 = 4 := by kernel_rfl
  rw [c27] at hl
  match cs, hl with
  | [a, b, c, d], _ =>
    simp [c3, c25] at hf
    obtain ⟨h0, h1, h2, h3⟩ := hf
    obtain ⟨k, e0, w0⟩ := pic_int (k := .i64) Try.underlying3 h0
    obtain ⟨p, e1, w1⟩ := pic_int (k := .i64) Try.underlying3 h2
    obtain ⟨r, e3, w3⟩ := pic_int (k := .i64) Try.underlying3 h3
    obtain ⟨bs, s1, s2, s3⟩ := pic_bytes Try.underlying25 (by kernel_rfl) Try.underlying5 h1
    simp at e0 e1 e3
    subst e0; subst e1; subst e3
    exact ⟨⟨k, bs, p, r⟩, [_], [_, _, _], rfl, ⟨rfl, w0⟩, [_], [_, _], rfl, ⟨_, rfl, s1, fun z hz _ => s3 z hz, s2⟩, [_], [_], rfl, ⟨rfl, w1⟩, rfl, w3⟩
theorem qacts_of {H : Heap} {v : AV} (h : Pic Try.prog H 4 22 [v]) : ∃ l, List0 qactS H (fun b => b < H.next) v l := by
  obtain ⟨len, c, h1, h2, h3, h4⟩ := pic_slice (s := 4) Try.underlying22 (by kernel_rfl) h
  obtain ⟨l, hl, hp⟩ := list_of fun i hi => qact_of (h4 i hi)
  exact ⟨l, List0.mk (by rw [hl]; exact h1) (fun b hb _ => h3 b hb) (by omega) ⟨by rw [hl]; exact h1.len, hp⟩⟩

theorem takeR_closed (n : Nat) : ∀ (l : List Part) (g : Nat), (∀ x ∈ l, x.b ≠ []) → takeR n false g l = ([], l)
  | [], _, _ => rfl
  | x :: l, g, h => by
    have ih := takeR_closed n l (g + 0) fun y hy => h y (by simp [hy])
    have hx : ¬ x.b.length ≤ 0 := by have := List.length_pos_iff.2 (h x (by simp)); omega
    simp only [takeR, Bool.false_and, Bool.false_eq_true, if_false, List.take_zero, List.drop_zero, List.nil_append]
    rw [ih, if_neg hx]
theorem takeR_full (n : Nat) : ∀ (l : List Part) (op : Bool) (g : Nat), n ≤ g → (∀ x ∈ l, x.b ≠ []) → takeR n op g l = ([], l)
  | [], _, _, _, _ => by simp [takeR]
  | x :: l, op, g, hg, h => by
    have ih := takeR_full n l (op && x.l.isEmpty) (g + 0) (by omega) fun y hy => h y (by simp [hy])
    have hx : ¬ x.b.length ≤ 0 := by have := List.length_pos_iff.2 (h x (by simp)); omega
    have hk : (if (op && x.l.isEmpty) = true then min x.b.length (n - g) else 0) = 0 := by split <;> omega
    simp only [takeR, hk, List.take_zero, List.drop_zero, List.nil_append]
    rw [ih, if_neg hx]
/-- The two are one. -/
theorem takeR_eq (n : Nat) : ∀ (l : List Part) (g : Nat), (∀ x ∈ l, x.b ≠ []) → takeR (n + g) true g l = takeQ n l
  | [], g, h => by simp [takeR, takeQ]
  | x :: l, g, h => by
    have hx := List.length_pos_iff.2 (h x (by simp))
    have hl : ∀ y ∈ l, y.b ≠ [] := fun y hy => h y (by simp [hy])
    cases hxl : x.l with
    | cons a b =>
      have he : (true && x.l.isEmpty) = false := by rw [hxl]; rfl
      rw [takeQ_stop (by rw [hxl]; simp)]
      simp only [takeR, he, Bool.false_eq_true, if_false, List.take_zero, List.drop_zero, List.nil_append]
      rw [takeR_closed _ _ _ hl, if_neg (by omega)]
    | nil =>
      have he : (true && x.l.isEmpty) = true := by rw [hxl]; rfl
      simp only [takeR, he, if_true, show n + g - g = n by omega]
      by_cases hn : n = 0
      · subst hn
        rw [takeQ_zero, show min x.b.length 0 = 0 by omega, Nat.add_zero, takeR_full _ _ _ _ (by omega) hl, if_neg (by omega)]
        simp
      · by_cases hle : x.b.length ≤ n
        · have ih := takeR_eq (n - x.b.length) l (g + x.b.length) hl
          rw [show n - x.b.length + (g + x.b.length) = n + g by omega] at ih
          rw [show min x.b.length n = x.b.length by omega, ih]
          simp [takeQ, hn, hxl, hle]
        · rw [show min x.b.length n = n by omega, takeR_full _ _ _ _ (by omega) hl]
          simp [takeQ, hn, hxl, hle]
theorem takeQ_ne {n : Nat} {x : Part} {r : List Part} (hn : n ≠ 0) (hx : x.b ≠ []) : (takeQ n (⟨x.b, []⟩ :: r)).1 ≠ [] := by
  have := List.length_pos_iff.2 hx
  by_cases h : x.b.length ≤ n
  · simp [takeQ, hn, h, hx]
  · simp [takeQ, hn, h, hx]

theorem take_no {H : Heap} {p : Nat} {slv : AV} {ok : Nat → Prop} {ql : List Part} {most : Int} (h : QueueR H p slv ok ql most) (n m : Int) (hn : n < 1 ∨ ql = []) :
    Cl Try.prog pr10 8 [.ptr (some (p, 0)), .int .i64 n, .int .i64 m] H fun w H' => w = .tuple [.slice none 0 0 none, .slice none 0 0 none, .slice none 0 0 none] ∧ H' = H := by
  have hq := h.q
  obtain ⟨c, ho, hr⟩ := h.own
  obtain ⟨a, cap, ex, rfl, hcap, hex⟩ := ho.form
  refine Cl.enter Try.func8 rfl rfl Try.ntmps8 (by simp) ?_
  by_cases hn1 : n < 1
  · refine walk hn1 ?_
    exact ⟨rfl, rfl⟩
  · obtain rfl := hn.resolve_left hn1
    refine walk (both hn1 hq) ?_
    exact ⟨rfl, rfl⟩
end Go.Abs

/- Chapter 10: an act done to the queue and to the reference, walked. -/
namespace Go.Abs
open Go.Proofs
set_option maxRecDepth 100000
set_option linter.unusedVariables false
set_option linter.unusedSimpArgs false

theorem QueueR.max {H : Heap} {p : Nat} {slv : AV} {ok : Nat → Prop} {ql : List Part} {most : Int} (h : QueueR H p slv ok ql most) : QueueR H p slv (okQ H p slv) ql most := by
  obtain ⟨c, h1, h2⟩ := h.own
  exact ⟨h.q, ⟨c, h1, h2.mono h.okd⟩, fun _ h => h, h.apart, h.ne, h.many, h.fits, h.lt, h.few⟩
theorem QueueR.kept {H H' : Heap} {p : Nat} {slv : AV} {ok : Nat → Prop} {ql : List Part} {most : Int} (h : QueueR H p slv ok ql most) (k : Keep H H') (hlt : p < H.next) : QueueR H' p slv ok ql most :=
  h.keep k id (fun ⟨_, _, h⟩ => h) (fun _ _ h => h) hlt
/-- The queue and the reference's list are one. -/
structure Two (H : Heap) (p : Nat) (slv lv : AV) (ql : List Part) (most : Int) : Prop where
  q : QueueR H p slv (okQ H p slv) ql most
  r : List0 partS H (okQ H p slv) lv ql
  lt : p < H.next
/-- The array's block is the one that it was, or new. -/
abbrev From (H : Heap) (slv slv' : AV) : Prop := ∀ z, slBlock slv' = some z → slBlock slv = some z ∨ H.next ≤ z
theorem From.rfl {H : Heap} {s : AV} : From H s s := fun _ h => .inl h
theorem From.of {H : Heap} {s s' : AV} (h : slBlock s' = slBlock s ∨ ∃ b, slBlock s' = some b ∧ H.next ≤ b) : From H s s' := fun z hz => by
  rcases h with e | ⟨b, e, hb⟩
  · exact .inl (e ▸ hz)
  · rw [e] at hz; injection hz with hz; exact .inr (hz ▸ hb)
theorem From.trans {H H1 : Heap} {s s1 s2 : AV} (h : From H s s1) (g : From H1 s1 s2) (hn : H.next ≤ H1.next) : From H s s2 := fun z hz => by
  rcases g z hz with e | e
  · exact h z e
  · exact .inr (by omega)
theorem okQ.up {H H' : Heap} {p : Nat} {slv slv' : AV} (hn : H.next ≤ H'.next) (hs : From H slv slv') (b : Nat) (h : okQ H p slv b) : okQ H' p slv' b := by
  obtain ⟨h1, h2, h3⟩ := h
  refine ⟨by omega, h2, fun e => ?_⟩
  rcases hs b e with e | e
  · exact h3 e
  · omega
theorem Two.kept {H H' : Heap} {p : Nat} {slv lv : AV} {ql : List Part} {most : Int} (h : Two H p slv lv ql most) (k : Keep H H') : Two H' p slv lv ql most :=
  ⟨(h.q.kept k h.lt).max, (h.r.kept k).mono (okQ.up k.next From.rfl), by have := h.lt; have := k.next; omega⟩
/-- The queue has turned. -/
theorem Two.turn {H H' : Heap} {p : Nat} {slv slv' lv : AV} {ql ql' : List Part} {most : Int} {ok : Nat → Prop} (h : Two H p slv lv ql most) (u : Upd (fun b => b = p ∨ slBlock slv = some b) H H') (hs : From H slv slv')
    (hq : QueueR H' p slv' ok ql' most) : QueueR H' p slv' (okQ H' p slv') ql' most ∧ List0 partS H' (okQ H' p slv') lv ql ∧ p < H'.next :=
  ⟨hq.max, (h.r.upd u okQ.not).mono (okQ.up u.next hs), by have := h.lt; have := u.next; omega⟩

/-- What an act leaves. -/
def doesB (most : Int) (ql : List Part) (kind n : Int) (b : List UInt8) (ls : List Pass) : List Part :=
  if kind = 1 then (if n < 1 then ql else match ql with | [] => [] | x :: r => (takeQ n.toNat (⟨x.b, []⟩ :: r)).2)
  else if kind = 2 then [] else (putQ most ql b ls).1
def doesQ (most : Int) (ql : List Part) (a : QAct) (ls : List Pass) : List Part := doesB most ql a.kind a.n (a.b.take 200) ls

theorem OwnG.list0 {α : Type} {S : Shape α} {H : Heap} {ok : Nat → Prop} {elem : TypeId} {v : AV} {c : List AV} {l : List α} (h : OwnG H elem S.s v l.length c) (hr : Rows S H ok c l) (hl : l.length ≤ 100000) : List0 S H (fun b => ok b ∨ slBlock v = some b) v l :=
  List0.mk h.sl (fun b hb _ => .inr hb) (by unfold maxLen; omega) (hr.mono fun _ h => .inl h)
set_option maxHeartbeats 4000000 in
theorem does_ok {H : Heap} {p : Nat} {slv lv va : AV} {ql : List Part} {most : Int} {okA : Nat → Prop} {a : QAct} (h : Two H p slv lv ql most) (k : Int) (hk0 : 0 ≤ k) (hk : k ≤ 10000)
    (ha : bytesS.R H okA [va] a.b) (hA : ∀ b, okA b → okQ H p slv b) (hn : -9223372036854775808 ≤ a.n ∧ a.n ≤ 9223372036854775807) (hm : -9223372036854775808 ≤ a.most ∧ a.most ≤ 9223372036854775807) :
    Cl Try.prog pr10 16 [.ptr (some (p, 0)), .int .i64 most, lv, .agg [.int .i64 a.kind, va, .int .i64 a.n, .int .i64 a.most], .int .i64 k] H fun w H' => ∃ lv' pv slv' ls, w = .tuple [lv', pv, .bool true] ∧
      Upd (fun b => b = p ∨ slBlock slv = some b) H H' ∧ From H slv slv' ∧ Two H' p slv' lv' (doesQ most ql a ls) most := by
  obtain ⟨va', e, hS, hSb, hSm⟩ := ha
  injection e with e _; subst e
  obtain ⟨ba, bc, bx, rfl, hbc, hbx⟩ := hS.form
  unfold maxLen at hSm
  refine Cl.wf fun hw => ?_
  refine Cl.enter Try.func16 rfl rfl Try.ntmps16 (by simp) ?_
  refine Wq.seq ?_
  refine walkr none0 ?_
  refine Wq.seq (Wq.mono (Q := fun z e Hx => z = .normal ∧ (∃ ba bc bx, Hx.get H.next = some (.cells [.int .i64 a.kind, .slice ba (a.b.take 200).length bc bx, .int .i64 a.n, .int .i64 a.most] 27 true false) ∧ bytesS.R Hx okA [.slice ba (a.b.take 200).length bc bx] (a.b.take 200)) ∧ Keep H Hx ∧ Hx.next = H.next + 1 ∧
    e 0 = .ptr (some (p, 0)) ∧ e 1 = .int .i64 most ∧ e 2 = lv ∧ e 4 = .int .i64 k ∧ e 8 = .ptr (some (H.next, 0))) ?_ ?_)
  · by_cases hl : 200 < a.b.length
    · obtain ⟨b1, o1, c1, t1, w1, m1, rfl, q1, q2, q3, q4⟩ := hS.at (by omega)
      have hlt : (a.b.take 200).length = 200 := by rw [List.length_take]; omega
      have hsub := hS.sub (k := 0) (m := 200) (cap' := bc) (ex' := bx) (by omega) (by omega) hbx
      simp only [Nat.zero_mul, Nat.add_zero, List.drop_zero, Nat.mul_one, bytes_take] at hsub
      refine walk (both hl hbx) ?_
      generalize hHb : Heap.set (Heap.push H _) _ _ = Hb
      have kb : Keep H Hb := by subst hHb; exact (Upd.rfl.push _).set _ (by simp) (by omega)
      refine ⟨rfl, ⟨some (b1, o1), bc, bx, ?_, ⟨_, rfl, ?_, fun z hz h0 => hSb z hz (by omega), by rw [hlt]; unfold maxLen; omega⟩⟩, kb, by subst hHb; simp, by simp, by simp, by simp, by simp, by simp⟩
      · subst hHb; simp [hlt]
      · rw [hlt]; exact hsub.kept kb
    · have ht : a.b.take 200 = a.b := List.take_of_length_le (by omega)
      refine walk hl ?_
      rw [ht]
      exact ⟨rfl, ⟨ba, bc, bx, by simp, ⟨_, rfl, hS.push _, hSb, by unfold maxLen; omega⟩⟩, Upd.rfl.push _, by simp, by simp, by simp, by simp, by simp, by simp⟩
  · clear hS hSb hSm hbc hbx
    have hA2 : (a.b.take 200).length ≤ 200 := by rw [List.length_take]; omega
    have hdo : ∀ ls, doesQ most ql a ls = doesB most ql a.kind a.n (a.b.take 200) ls := fun _ => rfl
    simp only [hdo]
    clear hdo
    generalize a.b.take 200 = bs at *
    rintro z e Hx _ ⟨rfl, ⟨ba, bc, bx, gx, ⟨va', e', hS, hSb, hSm⟩⟩, hkx, hnx, g0, g1, g2, g4, g8⟩
    injection e' with e' _; subst e'
    refine Thenq.normal ?_
    have hT := h.kept hkx
    obtain ⟨la, lc, lx, rfl, hlc, hlx, hlm⟩ := hT.r.form
    have hplt := h.lt
    by_cases k1 : a.kind = 1
    · have hq := hT.q.q
      rw [k1] at gx
      by_cases hno : a.n < 1 ∨ ql = []
      · have hdb : doesB most ql 1 a.n bs [] = ql := by
          simp only [doesB, if_true]
          rcases hno with h' | h'
          · rw [if_pos h']
          · subst h'; split <;> rfl
        rw [k1]
        cases ql with
        | nil =>
          refine walk (both g0 (both g1 (both g2 (both g4 (both g8 gx))))) ?_
          refine (next_some hT.q).mono fun w H2 _ ⟨e1, e2⟩ => ?_
          have e3 : w = .int .i64 0 := e1
          subst e3; subst e2
          refine walk (both g0 (both g1 (both g2 (both g4 (both g8 gx))))) ?_
          refine (take_no hT.q a.n a.most hno).mono fun w H3 _ ⟨e4, e5⟩ => ?_
          subst e4; subst e5
          refine walk (both g0 (both g1 (both g2 (both g4 (both g8 gx))))) ?_
          refine Cl.wfK ((takeR_no hT.r a.n a.most hno).mono fun w H4 hn4 ⟨⟨zb, e5, cz, hz1, hz2, hz3⟩, hk4⟩ hw4 => ?_)
          subst e5
          refine walk g0 ?_
          generalize hHz : Heap.set (Heap.push H4 _) _ _ = Hz
          have kz : Keep H4 Hz := by subst hHz; exact (Upd.rfl.push _).set _ (by simp) (by omega)
          have gz : Hz.get H4.next = some (.cells [.slice none 0 0 none, .slice none 0 0 none] 65 true false) := by subst hHz; simp
          have nz : Hz.next = H4.next + 1 := by subst hHz; simp
          clear hHz
          refine Oq.appendG (own := (.empty _)) (new := ([] : List AV)) (m := 0) (by simp (disch := omega) [g0, -getElem?_pos, wrapI64, tdivN, tmodN, ipos, ineg, dpos, dneg, slc_l, slc_h, slc_lh, slc_hm, slc_lhm, slc_0, slcR_some, slcR_none, cutS_ok, cutA_ok, byteAt_ok]; first | done | (repeat' (first | rfl | apply And.intro))) ⟨_, rfl, by simp; first | done | (repeat' (first | rfl | apply And.intro))⟩ rfl (by kernel_rfl) (by kernel_rfl) ((by simp [srcLen, srcCells])) (by simp [g0]) (by simp [g0]) (by omega) (by omega) fun w1 H5 o5 b5 s5 => ?_
          have kz5 : Keep Hz H5 := (Upd.rfl.push _).butOne b5 fun z hz _ => by simp [slBlock] at hz; omega
          have hw1n : ∀ z, slBlock w1 = some z → Hz.next ≤ z := fun z hz => by
            rcases s5 with e | e
            · rw [e] at hz; simp [slBlock] at hz; omega
            · rw [e] at hz; simp at hz; omega
          obtain ⟨w1a, w1c, w1x, rfl, _⟩ := o5.form
          refine walk g0 ?_
          refine Oq.appendG (own := o5) (new := ([] : List AV)) (m := 0) (by simp (disch := omega) [g0, -getElem?_pos, wrapI64, tdivN, tmodN, ipos, ineg, dpos, dneg, slc_l, slc_h, slc_lh, slc_hm, slc_lhm, slc_0, slcR_some, slcR_none, cutS_ok, cutA_ok, byteAt_ok]; first | done | (repeat' (first | rfl | apply And.intro))) ⟨_, rfl, by simp; first | done | (repeat' (first | rfl | apply And.intro))⟩ rfl (by kernel_rfl) (by kernel_rfl) ((by simp [srcLen, srcCells])) (by simp [g0]) (by simp [g0]) (by omega) (by omega) fun w2 H6 o6 b6 s6 => ?_
          have kz6 : Keep Hz H6 := kz5.butOne b6 fun z hz _ => by have := hw1n z hz; omega
          have k46 : Keep H4 H6 := kz.then kz6
          obtain ⟨w2a, w2c, w2x, rfl, _⟩ := o6.form
          have gzb := (k46.get hz2).trans hz3
          have gz6 := (kz6.get (show H4.next < Hz.next by omega)).trans gz
          refine walk (both g0 (both gzb gz6)) ?_
          refine (given_ok (ok1 := fun _ => False) (ok2 := fun _ => False) (x := []) (y := []) List0.nil List0.nil).mono fun w H7 hn7 ⟨⟨t7, e7, ht7⟩, hk7⟩ => ?_
          obtain rfl : t7 = true := ht7.2 rfl
          subst e7
          have gz7 := (hk7.get (show H4.next < H6.next by have := kz6.next; omega)).trans gz6
          refine walk (both g0 gz7) ?_
          refine (given_ok (ok1 := fun _ => False) (ok2 := fun _ => False) (x := []) (y := []) List0.nil List0.nil).mono fun w H8 hn8 ⟨⟨t8, e8, ht8⟩, hk8⟩ => ?_
          obtain rfl : t8 = true := ht8.2 rfl
          subst e8
          refine walk g0 ?_
          have k38 := ((hk4.then k46).then hk7).then hk8
          have k48 := (k46.then hk7).then hk8
          refine ⟨_, _, slv, [], rfl, (Upd.of hkx).then k38, From.rfl, ?_⟩
          rw [hdb]
          exact hT.kept k38
        | cons x r =>
          refine walk (both g0 (both g1 (both g2 (both g4 (both g8 gx))))) ?_
          refine (next_some hT.q).mono fun w H2 _ ⟨e1, e2⟩ => ?_
          have e3 : w = .int .i64 x.l.length := e1
          subst e3; subst e2
          obtain ⟨b, o, d, t1, w1, mk1, cs1, rfl, hokb, hb1, hg1, hf1, hd1, hr1⟩ := hT.r.at (i := 0) rfl
          obtain ⟨vb, vl, rfl, hbb, hl1⟩ := part_open hr1
          obtain ⟨la, lc', lx', rfl, _⟩ := hl1.form
          have r1 : d[o + 1]? = some (.slice la x.l.length lc' lx') := by have := get_of_take (j := 1) hd1 (by decide); simpa using this
          simp only [partS_s, Nat.zero_mul, Nat.add_zero, List.length_cons] at hf1 hlc hlm hd1
          unfold maxLen at hlm
          have hfew := hT.q.few
          have hxl := hfew x (by simp)
          refine walk (both g0 (both g1 (both g2 (both g4 (both g8 (both hg1 (both r1 gx))))))) ?_
          refine (take_no hT.q a.n a.most hno).mono fun w H3 _ ⟨e4, e5⟩ => ?_
          subst e4; subst e5
          refine walk (both g0 (both g1 (both g2 (both g4 (both g8 gx))))) ?_
          refine Cl.wfK ((takeR_no hT.r a.n a.most hno).mono fun w H4 hn4 ⟨⟨zb, e5, cz, hz1, hz2, hz3⟩, hk4⟩ hw4 => ?_)
          subst e5
          refine walk g0 ?_
          generalize hHz : Heap.set (Heap.push H4 _) _ _ = Hz
          have kz : Keep H4 Hz := by subst hHz; exact (Upd.rfl.push _).set _ (by simp) (by omega)
          have gz : Hz.get H4.next = some (.cells [.slice none 0 0 none, .slice none 0 0 none] 65 true false) := by subst hHz; simp
          have nz : Hz.next = H4.next + 1 := by subst hHz; simp
          clear hHz
          refine Oq.appendG (own := (.empty _)) (new := ([] : List AV)) (m := 0) (by simp (disch := omega) [g0, -getElem?_pos, wrapI64, tdivN, tmodN, ipos, ineg, dpos, dneg, slc_l, slc_h, slc_lh, slc_hm, slc_lhm, slc_0, slcR_some, slcR_none, cutS_ok, cutA_ok, byteAt_ok]; first | done | (repeat' (first | rfl | apply And.intro))) ⟨_, rfl, by simp; first | done | (repeat' (first | rfl | apply And.intro))⟩ rfl (by kernel_rfl) (by kernel_rfl) ((by simp [srcLen, srcCells])) (by simp [g0]) (by simp [g0]) (by omega) (by omega) fun w1 H5 o5 b5 s5 => ?_
          have kz5 : Keep Hz H5 := (Upd.rfl.push _).butOne b5 fun z hz _ => by simp [slBlock] at hz; omega
          have hw1n : ∀ z, slBlock w1 = some z → Hz.next ≤ z := fun z hz => by
            rcases s5 with e | e
            · rw [e] at hz; simp [slBlock] at hz; omega
            · rw [e] at hz; simp at hz; omega
          obtain ⟨w1a, w1c, w1x, rfl, _⟩ := o5.form
          refine walk g0 ?_
          refine Oq.appendG (own := o5) (new := ([] : List AV)) (m := 0) (by simp (disch := omega) [g0, -getElem?_pos, wrapI64, tdivN, tmodN, ipos, ineg, dpos, dneg, slc_l, slc_h, slc_lh, slc_hm, slc_lhm, slc_0, slcR_some, slcR_none, cutS_ok, cutA_ok, byteAt_ok]; first | done | (repeat' (first | rfl | apply And.intro))) ⟨_, rfl, by simp; first | done | (repeat' (first | rfl | apply And.intro))⟩ rfl (by kernel_rfl) (by kernel_rfl) ((by simp [srcLen, srcCells])) (by simp [g0]) (by simp [g0]) (by omega) (by omega) fun w2 H6 o6 b6 s6 => ?_
          have kz6 : Keep Hz H6 := kz5.butOne b6 fun z hz _ => by have := hw1n z hz; omega
          have k46 : Keep H4 H6 := kz.then kz6
          obtain ⟨w2a, w2c, w2x, rfl, _⟩ := o6.form
          have gzb := (k46.get hz2).trans hz3
          have gz6 := (kz6.get (show H4.next < Hz.next by omega)).trans gz
          refine walk (both g0 (both gzb gz6)) ?_
          refine (given_ok (ok1 := fun _ => False) (ok2 := fun _ => False) (x := []) (y := []) List0.nil List0.nil).mono fun w H7 hn7 ⟨⟨t7, e7, ht7⟩, hk7⟩ => ?_
          obtain rfl : t7 = true := ht7.2 rfl
          subst e7
          have gz7 := (hk7.get (show H4.next < H6.next by have := kz6.next; omega)).trans gz6
          refine walk (both g0 gz7) ?_
          refine (given_ok (ok1 := fun _ => False) (ok2 := fun _ => False) (x := []) (y := []) List0.nil List0.nil).mono fun w H8 hn8 ⟨⟨t8, e8, ht8⟩, hk8⟩ => ?_
          obtain rfl : t8 = true := ht8.2 rfl
          subst e8
          refine walk g0 ?_
          have k38 := ((hk4.then k46).then hk7).then hk8
          have k48 := (k46.then hk7).then hk8
          refine ⟨_, _, slv, [], rfl, (Upd.of hkx).then k38, From.rfl, ?_⟩
          rw [hdb]
          exact hT.kept k38
      · obtain ⟨x, r, rfl⟩ : ∃ x r, ql = x :: r := by cases ql with | nil => exact absurd (.inr rfl) hno | cons x r => exact ⟨x, r, rfl⟩
        refine walk (both g0 (both g1 (both g2 (both g4 (both g8 gx))))) ?_
        refine (next_some hT.q).mono fun w H2 _ ⟨e1, e2⟩ => ?_
        have e3 : w = .int .i64 x.l.length := e1
        subst e3; subst e2
        obtain ⟨b, o, d, t1, w1, mk1, cs1, rfl, hokb, hb1, hg1, hf1, hd1, hr1⟩ := hT.r.at (i := 0) rfl
        obtain ⟨vb, vl, rfl, hbb, hl1⟩ := part_open hr1
        obtain ⟨la, lc', lx', rfl, _⟩ := hl1.form
        have r1 : d[o + 1]? = some (.slice la x.l.length lc' lx') := by have := get_of_take (j := 1) hd1 (by decide); simpa using this
        simp only [partS_s, Nat.zero_mul, Nat.add_zero, List.length_cons] at hf1 hlc hlm hd1
        unfold maxLen at hlm
        have hn1 : 1 ≤ a.n := by rcases Int.lt_or_le a.n 1 with h' | h'; (· exact absurd (.inl h') hno); exact h'
        have hne := hT.q.ne
        have hfew := hT.q.few
        have hmany := hT.q.many
        have hfit := hT.q.fits
        have hxl := hfew x (by simp)
        refine walk (both g0 (both g1 (both g2 (both g4 (both g8 (both hg1 (both r1 gx))))))) ?_
        refine Cl.wfK ((take_ok hT.q a.n a.most hn1 hn.2 hm.1 hm.2).mono fun w H3 hn3 ⟨slv', wb, wp, wd, e4, hu3, hs3, hQ3, hB3, hP3, hD3⟩ hw3 => ?_)
        subst e4
        obtain ⟨hQ3', hL3, hp3⟩ := hT.turn hu3 (From.of (.inl hs3)) hQ3
        have gx3 := (hu3.keep H.next (by omega) (fun h' => by rcases h' with h' | h'; (· omega); (· have := h.q.lt _ h'; omega))).trans gx
        refine walk (both g0 (both g1 (both g2 (both g4 (both g8 gx3))))) ?_
        refine Cl.wfK ((takeR_ok hL3 (fun z hz => hz.1) a.n a.most hn1 (by simp at hmany; omega) (by omega) (by omega) hne).mono fun w H4 hn4 ⟨lo, lb, p0, p1, c0, c1, c2, e5, hk4, hlo, hO4, hR4, hS4, hO5, hR5, hO6, hR6⟩ hw4 => ?_)
        subst e5
        have htq := takeR_eq a.n.toNat (⟨x.b, []⟩ :: r) 0 (fun y hy => (List.mem_cons.1 hy).elim (fun e => by rw [e]; exact hne x (by simp)) fun hy => hne y (by simp [hy]))
        rw [Nat.add_zero] at htq
        rw [htq] at hO4 hR4 hS4
        have htne := takeQ_ne (n := a.n.toNat) (x := x) (r := r) (by omega) (hne x (by simp))
        have hm3 := hQ3'.many
        have hdb : doesB most (x :: r) 1 a.n bs [] = (takeQ a.n.toNat (⟨x.b, []⟩ :: r)).2 := by simp only [doesB, if_true]; rw [if_neg (by omega)]
        rw [k1]
        generalize (takeQ a.n.toNat (⟨x.b, []⟩ :: r)).2 = T2 at *
        generalize (takeQ a.n.toNat (⟨x.b, []⟩ :: r)).1 = T1 at *
        have hA1 : (x.l.take (max (min a.most x.l.length) 0).toNat).length ≤ 4 := by simp; omega
        have hA2 : (x.l.drop (max (min a.most x.l.length) 0).toNat).length ≤ 4 := by simp; omega
        generalize x.l.take (max (min a.most (x.l.length : Int)) 0).toNat = A1 at *
        generalize x.l.drop (max (min a.most (x.l.length : Int)) 0).toNat = A2 at *
        obtain ⟨wb', e6, hwS, hwb, _⟩ := hB3
        injection e6 with e6 _; subst e6
        obtain ⟨cp, hPS, hPb, _, hPr⟩ := hP3.open
        obtain ⟨cd, hDS, hDb, _, hDr⟩ := hD3.open
        obtain ⟨wba, wbc, wbx, rfl, _⟩ := hwS.form
        obtain ⟨wpa, wpc, wpx, rfl, _⟩ := hPS.form
        obtain ⟨wda, wdc, wdx, rfl, _⟩ := hDS.form
        obtain ⟨loa, loc, lox, rfl, _⟩ := hO4.form
        obtain ⟨lba, lbc, lbx, rfl, _⟩ := hS4.form
        obtain ⟨p0a, p0c, p0x, rfl, _⟩ := hO5.form
        obtain ⟨p1a, p1c, p1x, rfl, _⟩ := hO6.form
        refine walk g0 ?_
        generalize hHz : Heap.set (Heap.push H4 _) _ _ = Hz
        have kz : Keep H4 Hz := by subst hHz; exact (Upd.rfl.push _).set _ (by simp) (by omega)
        have gz : Hz.get H4.next = some (.cells [.slice p0a A1.length p0c p0x, .slice p1a A2.length p1c p1x] 65 true false) := by subst hHz; simp
        have nz : Hz.next = H4.next + 1 := by subst hHz; simp
        clear hHz
        have k3z := hk4.then kz
        refine Oq.appendG (own := (.empty _)) (new := cp) (m := A1.length) (by simp (disch := omega) [g0, -getElem?_pos, wrapI64, tdivN, tmodN, ipos, ineg, dpos, dneg, slc_l, slc_h, slc_lh, slc_hm, slc_lhm, slc_0, slcR_some, slcR_none, cutS_ok, cutA_ok, byteAt_ok]; first | done | (repeat' (first | rfl | apply And.intro))) ⟨_, rfl, by simp; first | done | (repeat' (first | rfl | apply And.intro))⟩ rfl (by kernel_rfl) (by kernel_rfl) (((hPS.kept k3z).push _).src') hPS.len hPr.all1 (by omega) (by omega) fun w1 H5 o5 b5 s5 => ?_
        have kz5 : Keep Hz H5 := (Upd.rfl.push _).butOne b5 fun z hz _ => by simp [slBlock] at hz; omega
        have hw1n : ∀ z, slBlock w1 = some z → Hz.next ≤ z := fun z hz => by
          rcases s5 with e | e
          · rw [e] at hz; simp [slBlock] at hz; omega
          · rw [e] at hz; simp at hz; omega
        obtain ⟨w1a, w1c, w1x, rfl, _⟩ := o5.form
        refine walk g0 ?_
        refine Oq.appendG (own := o5) (new := cd) (m := A2.length) (by simp (disch := omega) [g0, -getElem?_pos, wrapI64, tdivN, tmodN, ipos, ineg, dpos, dneg, slc_l, slc_h, slc_lh, slc_hm, slc_lhm, slc_0, slcR_some, slcR_none, cutS_ok, cutA_ok, byteAt_ok]; first | done | (repeat' (first | rfl | apply And.intro))) ⟨_, rfl, by simp; first | done | (repeat' (first | rfl | apply And.intro))⟩ rfl (by kernel_rfl) (by kernel_rfl) ((hDS.kept (k3z.then kz5)).src') hDS.len hDr.all1 (by omega) (by omega) fun w2 H6 o6 b6 s6 => ?_
        have kz6 : Keep Hz H6 := kz5.butOne b6 fun z hz _ => by have := hw1n z hz; omega
        have k46 : Keep H4 H6 := kz.then kz6
        have k36 : Keep H3 H6 := hk4.then k46
        obtain ⟨w2a, w2c, w2x, rfl, _⟩ := o6.form
        have cv1 : convR Try.prog 25 9 (some (.slice wba T1.length wbc wbx)) H6 = some (.str T1, H6) := conv_ne (by simp) (by simp) (hwS.kept k36) htne
        have cv2 : convR Try.prog 25 9 (some (.slice lba T1.length lbc lbx)) H6 = some (.str T1, H6) := conv_ne (by simp) (by simp) (hS4.kept k46) htne
        have gz6 := (kz6.get (show H4.next < Hz.next by omega)).trans gz
        refine walk (both g0 (both cv1 (both cv2 gz6))) ?_
        refine (given_ok (hP3.kept k36) ((hO5.list0 hR5 (by omega)).kept k46)).mono fun w H7 hn7 ⟨⟨t7, e7, ht7⟩, hk7⟩ => ?_
        obtain rfl : t7 = true := ht7.2 rfl
        subst e7
        have gz7 := (hk7.get (show H4.next < H6.next by have := kz6.next; omega)).trans gz6
        refine walk (both g0 gz7) ?_
        refine (given_ok ((hD3.kept k36).kept hk7) (((hO6.list0 hR6 (by omega)).kept k46).kept hk7)).mono fun w H8 hn8 ⟨⟨t8, e8, ht8⟩, hk8⟩ => ?_
        obtain rfl : t8 = true := ht8.2 rfl
        subst e8
        refine walk g0 ?_
        have k38 := (k36.then hk7).then hk8
        have k48 := (k46.then hk7).then hk8
        have hxn := hkx.next
        refine ⟨_, _, slv', [], rfl, (Upd.of hkx).trans (hu3.then k38) fun z hz h' => h', From.of (.inl hs3), ?_⟩
        rw [hdb]
        refine ⟨(hQ3'.kept k38 hp3).max, ?_, by have := k38.next; omega⟩
        have hll : T2.length ≤ 100000 := by have := hQ3'.many; omega
        refine ((hO4.list0 (S := partS) hR4 hll).kept k48).mono fun z hz => ?_
        rcases hz with hz | hz
        · exact okQ.up k38.next From.rfl z hz
        · have q := hlo z hz
          refine ⟨by have := k48.next; omega, by omega, fun e => by have := hQ3'.lt z e; omega⟩
    · by_cases k2 : a.kind = 2
      · rw [k2] at gx
        have hmany := hT.q.many
        have hfew := hT.q.few
        refine walk (both g0 (both g1 (both g2 (both g4 (both g8 gx))))) ?_
        refine Cl.wfK ((qclear_ok hT.q).mono fun w H3 hn3 ⟨c, hu3, hO3, hnw, hR3, hQ3⟩ hw3 => ?_)
        have hfr : From H slv (.slice none 0 0 none) := fun z hz => by simp [slBlock] at hz
        obtain ⟨hQ3', hL3, hp3⟩ := hT.turn (hu3.mono fun z _ h' => .inl h') (fun z hz => by simp [slBlock] at hz) hQ3
        obtain ⟨wa, wc, wx, rfl, _⟩ := hO3.form
        refine walk (both g0 (both g1 (both g2 (both g4 g8)))) ?_
        refine Cl.wfK ((all_ok hL3 (by omega) hfew (fun z hz => hz.1)).mono fun w H4 hn4 ⟨c4, hF4, hR4⟩ hw4 => ?_)
        obtain ⟨xa, xc, xx, rfl, _⟩ := hF4.own.form
        refine walk g0 ?_
        have hlen : (allP ql).length ≤ 64 := by have := allP_few (n := 4) hfew; omega
        have k4 := hF4.keep
        refine (given_ok ((hO3.list0 hR3 (by omega)).kept k4) (hF4.own.list0 hR4 (by omega))).mono fun w H5 hn5 ⟨⟨t5, e5, ht5⟩, hk5⟩ => ?_
        obtain rfl : t5 = true := ht5.2 rfl
        subst e5
        refine walk g0 ?_
        have k35 := k4.then hk5
        have hxn := hkx.next
        refine ⟨_, _, .slice none 0 0 none, [], rfl, (Upd.of hkx).trans ((hu3.mono fun z _ h' => .inl h').then k35) fun z hz h' => h', hfr, ?_⟩
        have hdb : doesB most ql a.kind a.n bs [] = [] := by simp [doesB, k2]
        rw [hdb]
        exact ⟨(hQ3'.kept k35 hp3).max, List0.nil, by have := k35.next; omega⟩
      · refine walk (both g0 (both g1 (both g2 (both g4 (both g8 (both gx (both k1 k2))))))) ?_
        refine Cl.wfK ((passed_ok a.n k _ hk0 hk hn.1 hn.2).mono fun w H3 hn3 ⟨ls, c3, hl6, hF3, hw3b, hR3⟩ hw3 => ?_)
        obtain ⟨wa, wc, wx, rfl, _⟩ := hF3.own.form
        have k3 := hF3.keep
        have gx3 := (k3.get (show H.next < Hx.next by omega)).trans gx
        refine walk (both g0 (both g1 (both g2 (both g4 (both g8 gx3))))) ?_
        have hxn := hkx.next
        have h3n := k3.next
        have hslt := h.q.lt
        refine Oq.appendG (own := (.empty _)) (new := cellsOfBytes bs) (m := bs.length) (by simp (disch := omega) [g0, -getElem?_pos, wrapI64, tdivN, tmodN, ipos, ineg, dpos, dneg, slc_l, slc_h, slc_lh, slc_hm, slc_lhm, slc_0, slcR_some, slcR_none, cutS_ok, cutA_ok, byteAt_ok]; first | done | (repeat' (first | rfl | apply And.intro))) ⟨_, rfl, by simp; first | done | (repeat' (first | rfl | apply And.intro))⟩ rfl (by kernel_rfl) (by kernel_rfl) (((hS.kept k3).push _).src') (by simp) (cellsOfBytes_one _) (by omega) (by omega) fun w1 H4 o4 b4 s4 => ?_
        have k34 : Keep H3 H4 := (Upd.rfl.push _).butOne b4 fun z hz _ => by simp [slBlock] at hz; omega
        have hw1n : ∀ z, slBlock w1 = some z → H3.next ≤ z := fun z hz => by
          rcases s4 with e | e
          · rw [e] at hz; simp [slBlock] at hz; omega
          · rw [e] at hz; simp at hz; omega
        obtain ⟨w1a, w1c, w1x, rfl, _⟩ := o4.form
        refine walk g0 ?_
        refine Oq.appendG (own := (.empty _)) (new := c3) (m := ls.length) (by simp (disch := omega) [g0, -getElem?_pos, wrapI64, tdivN, tmodN, ipos, ineg, dpos, dneg, slc_l, slc_h, slc_lh, slc_hm, slc_lhm, slc_0, slcR_some, slcR_none, cutS_ok, cutA_ok, byteAt_ok]; first | done | (repeat' (first | rfl | apply And.intro))) ⟨_, rfl, by simp; first | done | (repeat' (first | rfl | apply And.intro))⟩ rfl (by kernel_rfl) (by kernel_rfl) (((hF3.own.sl.kept k34).push _).src') hF3.own.len hR3.all1 (by omega) (by omega) fun w2 H5 o5 b5 s5 => ?_
        have k45 : Keep H4 H5 := (Upd.rfl.push _).butOne b5 fun z hz _ => by simp [slBlock] at hz; omega
        obtain ⟨w2a, w2c, w2x, rfl, _⟩ := o5.form
        refine walk g0 ?_
        simp only [Nat.zero_add, List.nil_append] at o4 o5
        have h45 := k45.next
        have h34 := k34.next
        have hHx5 : Keep Hx H5 := (k3.then k34).then k45
        have hnewQ : ∀ z, H.next ≤ z → z < H5.next → okQ H5 p slv z := fun z q1 q2 => ⟨q2, by omega, fun e => by have := hslt z e; omega⟩
        have hw2n : ∀ z, slBlock (AV.slice w2a ls.length w2c w2x) = some z → H3.next ≤ z := fun z hz => by
          rcases s5 with e | e
          · rw [Nat.zero_add] at e; rw [e] at hz; simp [slBlock] at hz; omega
          · rw [Nat.zero_add] at e; rw [e] at hz; simp at hz; omega
        have hw1n' : ∀ z, slBlock (AV.slice w1a bs.length w1c w1x) = some z → H3.next ≤ z := fun z hz => hw1n z (by rw [Nat.zero_add]; exact hz)
        have hRp : Rows passS H3 (okQ H5 p slv) c3 ls := hR3.mono fun z hz => by
          rcases hz with hz | hz
          · exact hz.elim
          · exact hnewQ z (by have := hz.1; omega) (by have := hz.2.1; omega)
        have hb5 : bytesS.R H5 (okQ H5 p slv) [.slice w1a bs.length w1c w1x] bs := ⟨_, rfl, o4.sl.kept k45, fun z hz h0 => hnewQ z (by have := hw1n' z hz; omega) (by have := o4.lt0 h0 z hz; omega), hSm⟩
        have hl5 : List0 passS H5 (okQ H5 p slv) (.slice w2a ls.length w2c w2x) ls := List0.mk o5.sl (fun z hz h0 => hnewQ z (by have := hw2n z hz; omega) (o5.lt0 h0 z hz)) (by unfold maxLen; omega) ((hRp.kept k34).kept k45)
        have hT5 := hT.kept hHx5
        have hT5up : ∀ z, okQ H p slv z → okQ H5 p slv z := okQ.up (by omega) From.rfl
        refine Cl.wfK ((put_ok hT5.q _ _ bs ls hb5 hl5 (fun _ h => h) (by omega) (by omega)).mono fun w H6 hn6 ⟨e6, slv', hu6, hs6, hQ6⟩ hw6 => ?_)
        subst e6
        obtain ⟨hQ6', hL6, hp6⟩ := hT5.turn hu6 (From.of hs6) hQ6
        have h6n := hu6.next
        have gx6 := (hu6.keep H.next (by omega) (fun h' => by rcases h' with h' | h'; (· omega); (· have := hslt _ h'; omega))).trans ((hHx5.get (by omega)).trans gx)
        have hfit := hT5.q.fits
        have hmany := hT5.q.many
        refine walk (both g0 (both g1 (both g2 (both g8 gx6)))) ?_
        have hb6 : bytesS.R H6 (okQ H6 p slv') [.slice ba bs.length bc bx] bs := by
          refine ⟨_, rfl, (hS.kept hHx5).upd hu6 fun z hz h0 h' => ?_, fun z hz h0 => okQ.up h6n (From.of hs6) z (hT5up z (hA z (hSb z hz h0))), hSm⟩
          exact okQ.not z (hA z (hSb z hz h0)) h'
        have hl6 : List0 passS H6 (okQ H6 p slv') (.slice wa ls.length wc wx) ls := by
          have q : List0 passS H5 (okQ H5 p slv) (.slice wa ls.length wc wx) ls := List0.mk ((hF3.own.sl.kept k34).kept k45) (fun z hz _ => hnewQ z (by have := hF3.new z hz; omega) (by have := hw3b z hz; omega)) (by unfold maxLen; omega) ((hRp.kept k34).kept k45)
          exact (q.upd hu6 okQ.not).mono (okQ.up h6n (From.of hs6))
        refine (putR_ok most hL6 hb6 hl6 (fun z hz => hz.1) (fun z hz => hz.1) ⟨hfit.1, hfit.2.2⟩ hmany (by omega) (by omega)).mono fun w H7 hn7 ⟨lv', e7, hk7, hL7⟩ => ?_
        subst e7
        refine walk g0 ?_
        have h7n := hk7.next
        have hdb : doesB most ql a.kind a.n bs ls = (putQ most ql bs ls).1 := by simp only [doesB]; rw [if_neg k1, if_neg k2]
        refine ⟨_, _, slv', ls, rfl, ((Upd.of (hkx.then hHx5)).trans hu6 fun z _ h' => h').then hk7, fun z hz => ?_, ?_⟩
        · rcases hs6 with e | ⟨b, e, hb⟩
          · exact .inl (e ▸ hz)
          · rw [e] at hz; injection hz with hz; exact .inr (by omega)
        · rw [hdb]
          refine ⟨(hQ6'.kept hk7 hp6).max, hL7.mono fun z hz => ?_, by omega⟩
          rcases hz with hz | hz | hz
          · exact okQ.up h7n From.rfl z hz
          · exact okQ.up h7n From.rfl z hz
          · exact ⟨hz.2, by omega, fun e => by have := hQ6'.lt z e; omega⟩
end Go.Abs
