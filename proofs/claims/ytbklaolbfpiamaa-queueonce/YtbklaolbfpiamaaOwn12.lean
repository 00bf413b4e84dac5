/- Texts on this program, joined. -/
import Derived.Test.YtbklaolbfpiamaaOwn10
import Derived.Test.YtbklaolbfpiamaaKit11
import Derived.Test.YtbklaolbfpiamaaKit04
import Derived.Test.YtbklaolbfpiamaaRows
import Derived.WalkKit
import Derived.ProofKit
import Derived.OpenShut
import Derived.ShutString
import Derived.ChangeOld
import Derived.Below

/- Chapter 10: the queue beside two lists that grow. -/
namespace Go.Abs
open Go.Proofs
set_option maxRecDepth 100000
set_option linter.unusedVariables false
set_option linter.unusedSimpArgs false

theorem QueueR.mono {H : Heap} {p : Nat} {slv : AV} {ok ok' : Nat → Prop} {ql : List Part} {most : Int} (h : QueueR H p slv ok ql most) (h1 : ∀ z, ok z → ok' z) (h2 : ∀ z, ok' z → okQ H p slv z) : QueueR H p slv ok' ql most := by
  obtain ⟨c, q1, q2⟩ := h.own
  exact ⟨h.q, ⟨c, q1, q2.mono h1⟩, h2, h.apart, h.ne, h.many, h.fits, h.lt, h.few⟩

def okT (H : Heap) (p : Nat) (slv vi vo : AV) (z : Nat) : Prop := okQ H p slv z ∧ slBlock vi ≠ some z ∧ slBlock vo ≠ some z
theorem From.not {H : Heap} {s s' : AV} (h : From H s s') {z : Nat} (hz : z < H.next) (hs : slBlock s ≠ some z) : slBlock s' ≠ some z := fun e => by
  rcases h z e with e | e
  · exact hs e
  · omega
theorem okT.up {H H' : Heap} {p : Nat} {slv slv' vi vi' vo vo' : AV} (hn : H.next ≤ H'.next) (hf : From H slv slv') (hi : From H vi vi') (ho : From H vo vo') (z : Nat) (h : okT H p slv vi vo z) : okT H' p slv' vi' vo' z :=
  ⟨okQ.up hn hf z h.1, hi.not h.1.1 h.2.1, ho.not h.1.1 h.2.2⟩

structure Four {α : Type} (S : Shape α) (el : TypeId) (H : Heap) (p : Nat) (slv vi vo : AV) (ql : List Part) (li lo : List α) (most : Int) : Prop where
  q : QueueR H p slv (okT H p slv vi vo) ql most
  lt : p < H.next
  i : ∃ c, OwnG H el S.s vi li.length c ∧ Rows S H (okT H p slv vi vo) c li
  o : ∃ c, OwnG H el S.s vo lo.length c ∧ Rows S H (okT H p slv vi vo) c lo
  bi : ∀ z, slBlock vi = some z → okQ H p slv z ∧ slBlock vo ≠ some z
  bo : ∀ z, slBlock vo = some z → okQ H p slv z ∧ slBlock vi ≠ some z
section
variable {α : Type} {S : Shape α} {el : TypeId} {H H' : Heap} {p : Nat} {slv slv' vi vo v' : AV} {ql ql' : List Part} {li lo ls : List α} {most : Int}
theorem Four.queue {ok : Nat → Prop} (h : Four S el H p slv vi vo ql li lo most) (u : Upd (fun b => b = p ∨ slBlock slv = some b) H H') (hf : From H slv slv') (hq : QueueR H' p slv' ok ql' most) (h1 : ∀ z, ok z → slBlock vi ≠ some z ∧ slBlock vo ≠ some z) : Four S el H' p slv' vi vo ql' li lo most := by
  have hn := u.next
  obtain ⟨ci, i1, i2⟩ := h.i
  obtain ⟨co, o1, o2⟩ := h.o
  have hnot : ∀ z, okT H p slv vi vo z → ¬ (z = p ∨ slBlock slv = some z) := fun z hz => okQ.not z hz.1
  have hup := okT.up (p := p) (vi := vi) (vo := vo) hn hf From.rfl From.rfl
  exact ⟨hq.mono (fun z hz => ⟨hq.okd z hz, h1 z hz⟩) fun z hz => hz.1, by have := h.lt; omega, ⟨ci, i1.upd u fun z hz => okQ.not z (h.bi z hz).1, (i2.upd u hnot).mono hup⟩, ⟨co, o1.upd u fun z hz => okQ.not z (h.bo z hz).1, (o2.upd u hnot).mono hup⟩,
    fun z hz => ⟨okQ.up hn hf z (h.bi z hz).1, (h.bi z hz).2⟩, fun z hz => ⟨okQ.up hn hf z (h.bo z hz).1, (h.bo z hz).2⟩⟩
theorem Four.kept (h : Four S el H p slv vi vo ql li lo most) (k : Keep H H') : Four S el H' p slv vi vo ql li lo most :=
  h.queue (Upd.of k) From.rfl (h.q.kept k h.lt) fun z hz => hz.2
theorem Four.swap (h : Four S el H p slv vi vo ql li lo most) : Four S el H p slv vo vi ql lo li most := by
  obtain ⟨ci, i1, i2⟩ := h.i
  obtain ⟨co, o1, o2⟩ := h.o
  have hs : ∀ z, okT H p slv vi vo z → okT H p slv vo vi z := fun z hz => ⟨hz.1, hz.2.2, hz.2.1⟩
  exact ⟨h.q.mono hs fun z hz => hz.1, h.lt, ⟨co, o1, o2.mono hs⟩, ⟨ci, i1, i2.mono hs⟩, h.bo, h.bi⟩
/-- One of the lists has grown. -/
theorem Four.app {c d : List AV} (h : Four S el H p slv vi vo ql li lo most) (hc : Rows S H (okT H p slv vi vo) c li) (hd : Rows S H (okT H p slv vi vo) d ls) (o : OwnG H' el S.s v' (li ++ ls).length (c ++ d)) (b : ButOne (slBlock vi) H H')
    (hs : slBlock v' = slBlock vi ∨ slBlock v' = some H.next) (hl : ∀ z, slBlock v' = some z → slBlock vi = some z ∨ z < H'.next) : Four S el H' p slv v' vo ql (li ++ ls) lo most := by
  have hn := b.1
  have u : Upd (fun z => slBlock vi = some z) H H' := Upd.rfl.butOne b fun z hz _ => hz
  have hf : From H vi v' := From.of (hs.imp id fun e => ⟨_, e, Nat.le_refl _⟩)
  obtain ⟨co, o1, o2⟩ := h.o
  have hnot : ∀ z, okT H p slv vi vo z → ¬ slBlock vi = some z := fun z hz => hz.2.1
  have hup := okT.up (p := p) (slv := slv) (vo := vo) hn From.rfl hf From.rfl
  have hp : ¬ slBlock vi = some p := fun e => (h.bi p e).1.2.1 rfl
  have hsl : ∀ z, slBlock slv = some z → ¬ slBlock vi = some z := fun z hz e => (h.bi z e).1.2.2 hz
  have hq := h.q.keep u hp (fun ⟨z, e1, e2⟩ => hsl z e1 e2) hnot h.lt
  refine ⟨hq.mono hup fun z hz => hz.1, by have := h.lt; omega, ⟨_, o, ((hc.upd u hnot).mono hup).app ((hd.upd u hnot).mono hup)⟩, ⟨co, o1.upd u fun z hz => (h.bo z hz).2, (o2.upd u hnot).mono hup⟩, fun z hz => ?_, fun z hz => ⟨okQ.up hn From.rfl z (h.bo z hz).1, hf.not (h.bo z hz).1.1 (h.bo z hz).2⟩⟩
  rcases hf z hz with e | e
  · exact ⟨okQ.up hn From.rfl z (h.bi z e).1, (h.bi z e).2⟩
  · have hz' : z < H'.next := by
      rcases hl z hz with e' | e'
      · have := (h.bi z e').1.1; omega
      · exact e'
    have := h.lt
    exact ⟨⟨hz', by omega, fun e' => by have := h.q.lt z e'; omega⟩, fun e' => by have := (h.bo z e').1.1; omega⟩
/-- A new block is none of theirs. -/
theorem Four.new (h : Four S el H p slv vi vo ql li lo most) {z : Nat} (hz : H.next ≤ z) (hl : z < H'.next) : okT H' p slv vi vo z := by
  have := h.lt
  exact ⟨⟨hl, by omega, fun e => by have := h.q.lt z e; omega⟩, fun e => by have := (h.bi z e).1.1; omega, fun e => by have := (h.bo z e).1.1; omega⟩
end

theorem allP_lastB (B : List UInt8) : ∀ l, allP (lastB l B) = allP l
  | [] => rfl
  | [x] => rfl
  | x :: y :: r => by
    have := allP_lastB B (y :: r)
    simp only [lastB, allP, List.flatMap_cons] at this ⊢
    rw [this]
theorem allP_put {most : Int} {ql : List Part} {bs : List UInt8} {ls : List Pass} : ((putQ most ql bs ls).2.2 = 0 ∧ allP (putQ most ql bs ls).1 = allP ql ++ ls) ∨ ((putQ most ql bs ls).2.2 ≠ 0 ∧ (putQ most ql bs ls).1 = ql) := by
  simp only [putQ]
  split
  · exact .inr ⟨by simp, rfl⟩
  · split
    · exact .inr ⟨by simp, rfl⟩
    · refine .inl ⟨rfl, ?_⟩
      rw [allP_lastB]
      by_cases h : ls ≠ [] ∨ ql = []
      · rw [if_pos h]; simp [allP]
      · rw [if_neg h]
        have : ls = [] := by
          cases ls with
          | nil => rfl
          | cons a b => exact absurd (.inl (by simp)) h
        rw [this, List.append_nil]
theorem allP_takeQ : ∀ (n : Nat) (l : List Part), allP (takeQ n l).2 = allP l
  | _, [] => rfl
  | n, x :: r => by
    by_cases h : n = 0 ∨ x.l ≠ []
    · simp only [takeQ, if_pos h]
    · have hx : x.l = [] := by
        cases hl : x.l with
        | nil => rfl
        | cons a b => exact absurd (.inr (by rw [hl]; simp)) h
      by_cases h2 : x.b.length ≤ n
      · have ih := allP_takeQ (n - x.b.length) r
        have e : takeQ n (x :: r) = (x.b ++ (takeQ (n - x.b.length) r).1, (takeQ (n - x.b.length) r).2) := by
          conv => lhs; unfold takeQ
          rw [if_neg h, if_pos h2]
        rw [e]
        show allP (takeQ (n - x.b.length) r).2 = allP (x :: r)
        rw [ih]
        simp [allP, hx]
      · have e : takeQ n (x :: r) = (x.b.take n, ⟨x.b.drop n, x.l⟩ :: r) := by
          conv => lhs; unfold takeQ
          rw [if_neg h, if_neg h2]
        rw [e]
        simp [allP]

def flatB (l : List Part) : List UInt8 := l.flatMap (·.b)
theorem flatB_cons (x : Part) (l : List Part) : flatB (x :: l) = x.b ++ flatB l := rfl
theorem flatB_total (l : List Part) : (flatB l).length = total l := by
  induction l with
  | nil => rfl
  | cons x l ih => rw [flatB_cons, total_cons, List.length_append, ih]
theorem flatB_takeQ : ∀ (n : Nat) (l : List Part), (takeQ n l).1 ++ flatB (takeQ n l).2 = flatB l
  | _, [] => rfl
  | n, x :: r => by
    by_cases h : n = 0 ∨ x.l ≠ []
    · simp only [takeQ, if_pos h, List.nil_append]
    · by_cases h2 : x.b.length ≤ n
      · have ih := flatB_takeQ (n - x.b.length) r
        have e : takeQ n (x :: r) = (x.b ++ (takeQ (n - x.b.length) r).1, (takeQ (n - x.b.length) r).2) := by
          conv => lhs; unfold takeQ
          rw [if_neg h, if_pos h2]
        rw [e]
        show (x.b ++ (takeQ (n - x.b.length) r).1) ++ flatB (takeQ (n - x.b.length) r).2 = x.b ++ flatB r
        rw [List.append_assoc, ih]
      · have e : takeQ n (x :: r) = (x.b.take n, ⟨x.b.drop n, x.l⟩ :: r) := by
          conv => lhs; unfold takeQ
          rw [if_neg h, if_neg h2]
        rw [e]
        show x.b.take n ++ (x.b.drop n ++ flatB r) = x.b ++ flatB r
        rw [← List.append_assoc, List.take_append_drop]
theorem flatB_app (a b : List Part) : flatB (a ++ b) = flatB a ++ flatB b := by simp [flatB]
theorem flatB_lastB (B : List UInt8) : ∀ l, l ≠ [] → flatB (lastB l B) = flatB l ++ B
  | [], h => absurd rfl h
  | [x], _ => by simp [lastB, flatB]
  | x :: y :: r, _ => by
    have := flatB_lastB B (y :: r) (by simp)
    simp only [lastB, flatB_cons, List.append_assoc] at this ⊢
    rw [this]
theorem flatB_put {most : Int} {ql : List Part} {bs : List UInt8} {ls : List Pass} (hm : (total ql : Int) ≤ most) : 0 ≤ (putQ most ql bs ls).2.1 ∧ (putQ most ql bs ls).2.1 ≤ bs.length ∧ flatB (putQ most ql bs ls).1 = flatB ql ++ bs.take (putQ most ql bs ls).2.1.toNat := by
  simp only [putQ]
  split
  · exact ⟨Int.le_refl _, by simp, by simp⟩
  · split
    · exact ⟨Int.le_refl _, by simp, by simp⟩
    · refine ⟨by simp only []; omega, by simp only []; omega, ?_⟩
      simp only []
      rw [flatB_lastB]
      · have e : bs.take (most - total ql).toNat = bs.take (min (bs.length : Int) (most - total ql)).toNat := by
          rcases Int.le_total (bs.length : Int) (most - total ql) with h' | h'
          · rw [List.take_of_length_le (by omega), List.take_of_length_le (by omega)]
          · congr 1; omega
        rw [← e]
        congr 1
        split
        · rw [flatB_app]; simp [flatB]
        · rfl
      · split
        · simp
        · rename_i h
          intro e
          exact h (.inr e)
theorem take_any {H : Heap} {p : Nat} {slv : AV} {ok : Nat → Prop} {ql : List Part} {most : Int} (h : QueueR H p slv ok ql most) (n m : Int) (hn2 : n ≤ 9223372036854775807) (hm1 : -9223372036854775808 ≤ m) (hm2 : m ≤ 9223372036854775807) :
    Cl Try.prog pr10 8 [.ptr (some (p, 0)), .int .i64 n, .int .i64 m] H fun w H' => ∃ slv' wb wp wd ql' B A1 A2, w = .tuple [wb, wp, wd] ∧ Upd (fun b => b = p ∨ slBlock slv = some b) H H' ∧ slBlock slv' = slBlock slv ∧ QueueR H' p slv' ok ql' most ∧
      bytesS.R H' (fun b => H.next ≤ b ∧ b < H'.next) [wb] B ∧ List0 passS H' ok wp A1 ∧ List0 passS H' ok wd A2 ∧ allP ql = A1 ++ A2 ++ allP ql' ∧ flatB ql = B ++ flatB ql' ∧ A1.length ≤ 4 ∧ A2.length ≤ 4 := by
  by_cases hno : n < 1 ∨ ql = []
  · refine (take_no h n m hno).mono fun w H' _ ⟨e1, e2⟩ => ?_
    subst e1; subst e2
    exact ⟨slv, _, _, _, ql, [], [], [], rfl, Upd.rfl, rfl, h, ⟨_, rfl, Sl.nil, by simp [slBlock], by simp⟩, List0.nil, List0.nil, rfl, rfl, by simp, by simp⟩
  · cases ql with
    | nil => exact absurd (.inr rfl) hno
    | cons x r =>
      have hn : 1 ≤ n := by rcases Int.lt_or_le n 1 with h' | h'; (· exact absurd (.inl h') hno); exact h'
      have hx := h.few x (by simp)
      refine (take_ok h n m hn hn2 hm1 hm2).mono fun w H' _ ⟨slv', wb, wp, wd, e, q1, q2, q3, q4, q5, q6⟩ => ⟨slv', wb, wp, wd, _, _, _, _, e, q1, q2, q3, q4, q5, q6, ?_, ?_, ?_, ?_⟩
      · rw [List.take_append_drop, allP_takeQ]; simp [allP]
      · rw [flatB_takeQ]; rfl
      · simp; omega
      · simp; omega
end Go.Abs

/- Chapter 10: QueueOnce. -/
namespace Go.Abs
open Go.Proofs
set_option maxRecDepth 100000
set_option linter.unusedVariables false
set_option linter.unusedSimpArgs false

set_option maxHeartbeats 8000000 in
theorem queueOnce_main (z : Int) (va : AV) (l : List QAct) (H : Heap) (hz0 : 0 ≤ z) (hz : z ≤ 255) (hl : List0 qactS H (fun b => b < H.next) va l) :
    Cl Try.prog pr10 4 [.int .u8 z, va] H fun v _ => v = .bool true := by
  obtain ⟨a, cap, ex, rfl, k1, m1, n1⟩ := hl.form
  unfold maxLen at n1
  have hN : 1 ≤ 1 + z % 200 ∧ 1 + z % 200 ≤ 4096 := by omega
  have hmod : z.tmod 200 = z % 200 := Int.tmod_eq_emod_of_nonneg hz0
  refine Cl.enter Try.func4 rfl rfl Try.ntmps4 (by simp) ?_
  refine walk hmod ?_
  refine Cl.wfK ((new_yes (1 + z % 200) hN _).mono fun v H1 hn1 ⟨e, hk, hQ⟩ hw1 => ?_)
  subst e
  generalize 1 + z % 200 = N at *
  refine walk none0 ?_
  have hk0 := hk.next
  have hplt := hw1.lt hQ.q
  refine Wq.loop (fun m e H' => ∃ (i : Nat) (slv vi vo : AV) (ql : List Part) (li lo : List Pass), i ≤ 60 ∧ m = 60 - i ∧ e 1 = .slice a l.length cap ex ∧ e 6 = .ptr (some (H.next, 0)) ∧ e 7 = vi ∧ e 8 = vo ∧ e 9 = .int .i64 i ∧
    Upd (fun z => H.next ≤ z) H H' ∧ (∀ z, slBlock slv = some z → H.next ≤ z) ∧ (∀ z, slBlock vi = some z → H.next ≤ z) ∧ (∀ z, slBlock vo = some z → H.next ≤ z) ∧ Four passS 60 H' H.next slv vi vo ql li lo N ∧ li = lo ++ allP ql ∧ li.length ≤ 6 * i) 60 ?_ ?_
  · have hFr : Four passS 60 ((H1.push (.cells [] 60 true false)).push (.cells [] 60 true false)) H.next (.slice none 0 0 none) (.slice (some (H1.next, 0)) 0 0 none) (.slice (some (H1.next + 1, 0)) 0 0 none) [] [] [] N := by
      refine ⟨(hQ.kept ((Upd.rfl.push _).push _) hplt).mono (fun _ h => h.elim) fun z hz => hz.1, by simp; omega, ⟨[], .empty _, Rows.nil⟩, ⟨[], .empty _, Rows.nil⟩, fun z hz => ?_, fun z hz => ?_⟩
      · simp [slBlock] at hz; subst hz
        exact ⟨⟨by simp <;> omega, by omega, by simp [slBlock]⟩, by simp [slBlock]⟩
      · simp [slBlock] at hz; subst hz
        exact ⟨⟨by simp, by omega, by simp [slBlock]⟩, by simp [slBlock]⟩
    exact ⟨0, _, _, _, _, _, _, by omega, by omega, by simp, by simp, by simp, by simp, by simp, ((Upd.of hk).push _).push _, by simp [slBlock], by simp [slBlock]; omega, by simp [slBlock]; omega, hFr, by simp [allP], by simp⟩
  · rintro m e H' ⟨i, slv, vi, vo, ql, li, lo, hi, rfl, g1, g6, g7, g8, g9, hU, hsl, hvi, hvo, hT, heq, hsz⟩
    obtain ⟨ci, i1, i2⟩ := hT.i
    obtain ⟨co, o1, o2⟩ := hT.o
    obtain ⟨via, vic, vix, rfl, _⟩ := i1.form
    obtain ⟨voa, voc, vox, rfl, _⟩ := o1.form
    have hUn := hU.next
    have hlo : lo.length ≤ 6 * i := by have := congrArg List.length heq; rw [List.length_append] at this; omega
    have hend : ∀ (c : Nat), True := fun _ => trivial
    by_cases hgo : i < l.length ∧ i < 60
    · obtain ⟨hlt, h60⟩ := hgo
      obtain ⟨x, hx⟩ := get_lt hlt
      have hl' := hl.upd hU fun z hz => by omega
      obtain ⟨b, o, d, t1, w1, mk1, cs1, rfl, hokb, hb1, hg1, hf1, hd1, hr1⟩ := hl'.at hx
      obtain ⟨vb, rfl, hvb, hxn, hxm⟩ := qact_open hr1
      simp only [qactS_s] at hf1 hd1
      obtain ⟨vb', e', hS, hSb, hSm⟩ := hvb
      injection e' with e' _; subst e'
      obtain ⟨ba, bc, bx, rfl, hbc, hbx⟩ := hS.form
      unfold maxLen at hSm
      have hone : [AV.int .i64 x.kind, .slice ba x.b.length bc bx, .int .i64 x.n, .int .i64 x.most].all AV.one = true := rfl
      refine Wq.seq ?_
      refine Wq.seq ?_
      refine walkr (both g1 (both g6 (both g7 (both g8 (both g9 (both hlt (both h60 (both hg1 hd1)))))))) ?_
      refine Wq.seq ?_
      refine Wq.block ?_
      refine Wq.seq ?_
      refine walkr (both g1 (both g6 (both g7 (both g8 (both g9 (both hlt (both h60 (both hg1 hd1)))))))) ?_
      generalize hHb : Heap.set (Heap.push H' _) _ _ = Hb
      have kb : Keep H' Hb := by subst hHb; exact (Upd.rfl.push _).set _ (by simp) (by omega)
      have gb : Hb.get H'.next = some (.cells [.int .i64 x.kind, .slice ba x.b.length bc bx, .int .i64 x.n, .int .i64 x.most] 27 true false) := by subst hHb; simp
      have nb : Hb.next = H'.next + 1 := by subst hHb; simp
      clear hHb
      refine Wq.seq (Wq.mono (Q := fun z e Hx => z = .normal ∧ (∃ ba bc bx, Hx.get H'.next = some (.cells [.int .i64 x.kind, .slice ba (x.b.take 200).length bc bx, .int .i64 x.n, .int .i64 x.most] 27 true false) ∧ bytesS.R Hx (fun b => b < H.next) [.slice ba (x.b.take 200).length bc bx] (x.b.take 200)) ∧ Keep H' Hx ∧ Hx.next = H'.next + 1 ∧
        e 1 = .slice (some (b, o)) l.length cap ex ∧ e 6 = .ptr (some (H.next, 0)) ∧ e 7 = .slice via li.length vic vix ∧ e 8 = .slice voa lo.length voc vox ∧ e 9 = .int .i64 i ∧ e 10 = .ptr (some (H'.next, 0))) ?_ ?_)
      · by_cases hl2 : 200 < x.b.length
        · obtain ⟨b1, o1, c1, t1, w1, m1, rfl, q1, q2, q3, q4⟩ := hS.at (by omega)
          have hlt2 : (x.b.take 200).length = 200 := by rw [List.length_take]; omega
          have hsub := hS.sub (k := 0) (m := 200) (cap' := bc) (ex' := bx) (by omega) (by omega) hbx
          simp only [Nat.zero_mul, Nat.add_zero, List.drop_zero, Nat.mul_one, bytes_take] at hsub
          refine walk (both hl2 (both hbx (both gb (both g1 (both g6 (both g7 (both g8 g9))))))) ?_
          have k2 : Keep H' (Hb.set H'.next (.cells [.int .i64 x.kind, .slice (some (b1, o1)) 200 bc bx, .int .i64 x.n, .int .i64 x.most] 27 true false)) := kb.set _ (by omega) (by omega)
          refine ⟨rfl, ⟨some (b1, o1), bc, bx, by simp [hlt2], ⟨_, rfl, ?_, fun z hz h0 => hSb z hz (by omega), by rw [hlt2]; unfold maxLen; omega⟩⟩, k2, by simp [nb], by simp [g1], by simp [g6], by simp [g7], by simp [g8], by simp [g9], by simp⟩
          rw [hlt2]; exact hsub.kept k2
        · have ht : x.b.take 200 = x.b := List.take_of_length_le (by omega)
          refine walk (both hl2 (both gb (both g1 (both g6 (both g7 (both g8 g9)))))) ?_
          rw [ht]
          exact ⟨rfl, ⟨ba, bc, bx, gb, ⟨_, rfl, hS.kept kb, hSb, by unfold maxLen; omega⟩⟩, kb, nb, by simp [g1], by simp [g6], by simp [g7], by simp [g8], by simp [g9], by simp⟩
      · clear hS hSb hSm hbc hbx gb nb hd1 hr1 hone
        have hA2 : (x.b.take 200).length ≤ 200 := by rw [List.length_take]; omega
        generalize x.b.take 200 = bs at *
        rintro z e Hx _ ⟨rfl, ⟨ba, bc, bx, gx, ⟨va', e', hS, hSb, hSm⟩⟩, hkx, hnx, g1, g6, g7, g8, g9, g10⟩
        injection e' with e' _; subst e'
        refine Thenq.normal ?_
        have hT' := hT.kept hkx
        by_cases k0 : x.kind = 0
        · rw [k0] at gx
          refine walk (both g1 (both g6 (both g7 (both g8 (both g9 (both g10 gx)))))) ?_
          refine Cl.wfK ((passed_ok x.n (10 * i) _ (by omega) (by omega) hxn.1 hxn.2).mono fun w H3 hn3 ⟨ls, c3, hl6, hF3, hw3b, hR3⟩ hw3 => ?_)
          obtain ⟨wa, wc, wx, rfl, _⟩ := hF3.own.form
          have k3 := hF3.keep
          have h3n := k3.next
          have gx3 := (k3.get (show H'.next < Hx.next by omega)).trans gx
          refine walk (both g6 (both g10 gx3)) ?_
          refine Oq.appendG (own := (.empty _)) (new := cellsOfBytes bs) (m := bs.length) (by simp (disch := omega) [g6, -getElem?_pos, wrapI64, tdivN, tmodN, ipos, ineg, dpos, dneg, slc_l, slc_h, slc_lh, slc_hm, slc_lhm, slc_0, slcR_some, slcR_none, cutS_ok, cutA_ok, byteAt_ok]; first | done | (repeat' (first | rfl | apply And.intro))) ⟨_, rfl, by simp; first | done | (repeat' (first | rfl | apply And.intro))⟩ rfl (by kernel_rfl) (by kernel_rfl) (((hS.kept k3).push _).src') (by simp) (cellsOfBytes_one _) (by omega) (by omega) fun w1 H4 o4 b4 s4 => ?_
          have k34 : Keep H3 H4 := (Upd.rfl.push _).butOne b4 fun z hz _ => by simp [slBlock] at hz; omega
          have hw1n : ∀ z, slBlock w1 = some z → H3.next ≤ z := fun z hz => by
            rcases s4 with e | e
            · rw [e] at hz; simp [slBlock] at hz; omega
            · rw [e] at hz; simp at hz; omega
          obtain ⟨w1a, w1c, w1x, rfl, _⟩ := o4.form
          refine walk g6 ?_
          refine Oq.appendG (own := (.empty _)) (new := c3) (m := ls.length) (by simp (disch := omega) [g6, -getElem?_pos, wrapI64, tdivN, tmodN, ipos, ineg, dpos, dneg, slc_l, slc_h, slc_lh, slc_hm, slc_lhm, slc_0, slcR_some, slcR_none, cutS_ok, cutA_ok, byteAt_ok]; first | done | (repeat' (first | rfl | apply And.intro))) ⟨_, rfl, by simp; first | done | (repeat' (first | rfl | apply And.intro))⟩ rfl (by kernel_rfl) (by kernel_rfl) (((hF3.own.sl.kept k34).push _).src') hF3.own.len hR3.all1 (by omega) (by omega) fun w2 H5 o5 b5 s5 => ?_
          have k45 : Keep H4 H5 := (Upd.rfl.push _).butOne b5 fun z hz _ => by simp [slBlock] at hz; omega
          obtain ⟨w2a, w2c, w2x, rfl, _⟩ := o5.form
          refine walk g6 ?_
          simp only [Nat.zero_add, List.nil_append] at o4 o5
          have h45 := k45.next
          have h34 := k34.next
          have hHx5 : Keep Hx H5 := (k3.then k34).then k45
          have hnewT : ∀ z, Hx.next ≤ z → z < H5.next → okT H5 H.next slv (.slice via li.length vic vix) (.slice voa lo.length voc vox) z := fun z q1 q2 => hT'.new q1 q2
          have hw2n : ∀ z, slBlock (AV.slice w2a ls.length w2c w2x) = some z → H3.next ≤ z := fun z hz => by
            rcases s5 with e | e
            · rw [Nat.zero_add] at e; rw [e] at hz; simp [slBlock] at hz; omega
            · rw [Nat.zero_add] at e; rw [e] at hz; simp at hz; omega
          have hw1n' : ∀ z, slBlock (AV.slice w1a bs.length w1c w1x) = some z → H3.next ≤ z := fun z hz => hw1n z (by rw [Nat.zero_add]; exact hz)
          have hRp : Rows passS H3 (okT H5 H.next slv (.slice via li.length vic vix) (.slice voa lo.length voc vox)) c3 ls := hR3.mono fun z hz => by
            rcases hz with hz | hz
            · exact hz.elim
            · exact hnewT z (by have := hz.1; omega) (by have := hz.2.1; omega)
          have hb5 : bytesS.R H5 (okT H5 H.next slv (.slice via li.length vic vix) (.slice voa lo.length voc vox)) [.slice w1a bs.length w1c w1x] bs := ⟨_, rfl, o4.sl.kept k45, fun z hz h0 => hnewT z (by have := hw1n' z hz; omega) (by have := o4.lt0 h0 z hz; omega), hSm⟩
          have hl5 : List0 passS H5 (okT H5 H.next slv (.slice via li.length vic vix) (.slice voa lo.length voc vox)) (.slice w2a ls.length w2c w2x) ls := List0.mk o5.sl (fun z hz h0 => hnewT z (by have := hw2n z hz; omega) (o5.lt0 h0 z hz)) (by unfold maxLen; omega) ((hRp.kept k34).kept k45)
          have hT5 := hT'.kept hHx5
          refine Cl.wfK ((put_ok hT5.q _ _ bs ls hb5 hl5 (fun _ h => h.1) (by omega) (by omega)).mono fun w H6 hn6 ⟨e6, slv', hu6, hs6, hQ6⟩ hw6 => ?_)
          subst e6
          have hT6 := hT5.queue hu6 (From.of hs6) hQ6 fun z hz => by
            rcases hz with hz | hz | hz
            · exact hz.2
            · exact hz.2
            · exact ⟨fun e => by have := (hT5.bi z e).1.1; omega, fun e => by have := (hT5.bo z e).1.1; omega⟩
          have hUf : Upd (fun z => H.next ≤ z) H H6 := ((hU.then hkx).then hHx5).trans hu6 fun z hz h' => by
            rcases h' with h' | h'
            · omega
            · exact hsl z h'
          have hslf : ∀ z, slBlock slv' = some z → H.next ≤ z := fun z hz => by
            rcases hs6 with e | ⟨b, e, hb⟩
            · exact hsl z (e ▸ hz)
            · rw [e] at hz; injection hz with hz; omega
          have h6n := hu6.next
          rcases allP_put (most := N) (ql := ql) (bs := bs) (ls := ls) with ⟨he0, hpe⟩ | ⟨he1, hpe⟩
          · rw [he0]
            have hq6 : List0 passS H6 (okT H6 H.next slv' (.slice via li.length vic vix) (.slice voa lo.length voc vox)) (.slice wa ls.length wc wx) ls := by
              have q : List0 passS H5 (okT H5 H.next slv (.slice via li.length vic vix) (.slice voa lo.length voc vox)) (.slice wa ls.length wc wx) ls := List0.mk ((hF3.own.sl.kept k34).kept k45) (fun z hz _ => hnewT z (by have := hF3.new z hz; omega) (by have := hw3b z hz; omega)) (by unfold maxLen; omega) ((hRp.kept k34).kept k45)
              exact (q.upd hu6 fun z hz => okQ.not z hz.1).mono (okT.up h6n (From.of hs6) From.rfl From.rfl)
            obtain ⟨cq, qS, _, _, qR⟩ := hq6.open
            obtain ⟨ci6, i6, i6R⟩ := hT6.i
            refine walk (both g1 (both g6 (both g7 (both g8 g9)))) ?_
            refine Oq.appendL (own := i6) (new := cq) (m := ls.length) (by simp (disch := omega) [g7, -getElem?_pos, wrapI64, tdivN, tmodN, ipos, ineg, dpos, dneg, slc_l, slc_h, slc_lh, slc_hm, slc_lhm, slc_0, slcR_some, slcR_none, cutS_ok, cutA_ok, byteAt_ok]; first | done | (repeat' (first | rfl | apply And.intro))) ⟨_, rfl, by simp; first | done | (repeat' (first | rfl | apply And.intro))⟩ rfl (by kernel_rfl) (by kernel_rfl) (qS.src') qS.len qR.all1 (by omega) (by omega) fun w7 H7 o7 b7 s7 l7 => ?_
            have hT7 := hT6.app i6R qR (by rw [List.length_append]; exact o7) b7 s7 l7
            refine walk g9 ?_
            refine Roundq.normal (60 - (i + 1)) (by omega) ⟨i + 1, slv', w7, _, _, li ++ ls, lo, by omega, rfl, by simp [g1], by simp [g6], by simp, by simp [g8], by simp, hUf.butOne b7 fun z hz _ => hvi z hz, hslf, fun z hz => ?_, hvo, hT7, ?_, by rw [List.length_append]; omega⟩
            · rcases s7 with e | e
              · exact hvi z (e ▸ hz)
              · rw [e] at hz; injection hz with hz; omega
            · rw [hpe, heq, List.append_assoc]
          · have he1' : ¬ (putQ N ql bs ls).2.2 = 0 := he1
            refine walk (both g1 (both g6 (both g7 (both g8 (both g9 he1'))))) ?_
            exact Roundq.normal (60 - (i + 1)) (by omega) ⟨i + 1, slv', _, _, _, li, lo, by omega, rfl, by simp [g1], by simp [g6], by simp [g7], by simp [g8], by simp, hUf, hslf, hvi, hvo, hT6, by rw [hpe]; exact heq, by omega⟩
        · by_cases k2 : x.kind = 2
          · rw [k2] at gx
            refine walk (both g1 (both g6 (both g7 (both g8 (both g9 (both g10 gx)))))) ?_
            refine Cl.wfK ((qclear_ok hT'.q).mono fun w H3 hn3 ⟨c, hu3, hO3, hnw, hR3, hQ3⟩ hw3 => ?_)
            have hmany := hT'.q.many
            have hfew := hT'.q.few
            have hlen : (allP ql).length ≤ 64 := by have := allP_few (n := 4) hfew; omega
            have hT3 := hT'.queue (slv' := .slice none 0 0 none) (hu3.mono fun z _ h' => .inl h') (fun z hz => by simp [slBlock] at hz) hQ3 (fun _ h => h.elim)
            obtain ⟨co3, o3, o3R⟩ := hT3.o
            obtain ⟨wa, wc, wx, rfl, _⟩ := hO3.form
            have hR3' := hR3.mono (okT.up (p := H.next) (slv := slv) (slv' := .slice none 0 0 none) hn3 (fun z hz => by simp [slBlock] at hz) From.rfl From.rfl)
            refine walk (both g1 (both g6 (both g7 (both g8 g9)))) ?_
            refine Oq.appendL (own := o3) (new := c) (m := (allP ql).length) (by simp (disch := omega) [g8, -getElem?_pos, wrapI64, tdivN, tmodN, ipos, ineg, dpos, dneg, slc_l, slc_h, slc_lh, slc_hm, slc_lhm, slc_0, slcR_some, slcR_none, cutS_ok, cutA_ok, byteAt_ok]; first | done | (repeat' (first | rfl | apply And.intro))) ⟨_, rfl, by simp; first | done | (repeat' (first | rfl | apply And.intro))⟩ rfl (by kernel_rfl) (by kernel_rfl) (hO3.sl.src') hO3.len hR3.all1 (by omega) (by omega) fun w7 H7 o7 b7 s7 l7 => ?_
            have hT7 := (hT3.swap.app (o3R.mono fun z hz => ⟨hz.1, hz.2.2, hz.2.1⟩) (hR3'.mono fun z hz => ⟨hz.1, hz.2.2, hz.2.1⟩) (by rw [List.length_append]; exact o7) b7 s7 l7).swap
            refine walk g9 ?_
            refine Roundq.normal (60 - (i + 1)) (by omega) ⟨i + 1, .slice none 0 0 none, _, w7, _, li, lo ++ allP ql, by omega, rfl, by simp [g1], by simp [g6], by simp [g7], by simp, by simp, ((hU.then hkx).trans hu3 fun z hz h' => by omega).butOne b7 fun z hz _ => hvo z hz, by simp [slBlock], hvi, fun z hz => ?_, hT7, by rw [heq]; simp [allP], by omega⟩
            rcases s7 with e | e
            · exact hvo z (e ▸ hz)
            · rw [e] at hz; injection hz with hz; have := hU.next; have := hkx.next; omega
          · refine walk (both g1 (both g6 (both g7 (both g8 (both g9 (both g10 (both gx (both k0 k2)))))))) ?_
            refine Cl.wfK ((take_any hT'.q x.n x.most hxn.2 hxm.1 hxm.2).mono fun w H3 hn3 ⟨slv', wb, wp, wd, ql', B, A1, A2, e3, hu3, hs3, hQ3, hB3, hP3, hD3, hall, hbb, hA1, hA3⟩ hw3 => ?_)
            subst e3
            have hT3 := hT'.queue hu3 (From.of (.inl hs3)) hQ3 fun z hz => hz.2
            have hup := okT.up (p := H.next) (slv := slv) (slv' := slv') (vi := .slice via li.length vic vix) (vo := .slice voa lo.length voc vox) hn3 (From.of (.inl hs3)) From.rfl From.rfl
            have hP3' := hP3.mono hup
            have hD3' := hD3.mono hup
            obtain ⟨cp, pS, _, _, pR⟩ := hP3'.open
            obtain ⟨co3, o3, o3R⟩ := hT3.o
            obtain ⟨wpa, wpc, wpx, rfl, _⟩ := pS.form
            refine walk (both g1 (both g6 (both g7 (both g8 g9)))) ?_
            refine Oq.appendL (own := o3) (new := cp) (m := A1.length) (by simp (disch := omega) [g8, -getElem?_pos, wrapI64, tdivN, tmodN, ipos, ineg, dpos, dneg, slc_l, slc_h, slc_lh, slc_hm, slc_lhm, slc_0, slcR_some, slcR_none, cutS_ok, cutA_ok, byteAt_ok]; first | done | (repeat' (first | rfl | apply And.intro))) ⟨_, rfl, by simp; first | done | (repeat' (first | rfl | apply And.intro))⟩ rfl (by kernel_rfl) (by kernel_rfl) (pS.src') pS.len pR.all1 (by omega) (by omega) fun w7 H7 o7 b7 s7 l7 => ?_
            have hT7 := (hT3.swap.app (o3R.mono fun z hz => ⟨hz.1, hz.2.2, hz.2.1⟩) (pR.mono fun z hz => ⟨hz.1, hz.2.2, hz.2.1⟩) (by rw [List.length_append]; exact o7) b7 s7 l7).swap
            have u7 : Upd (fun z => slBlock (AV.slice voa lo.length voc vox) = some z) H3 H7 := Upd.rfl.butOne b7 fun z hz _ => hz
            have f7 : From H3 (AV.slice voa lo.length voc vox) w7 := From.of (s7.imp id fun e => ⟨_, e, Nat.le_refl _⟩)
            have hD7 := (hD3'.upd u7 fun z hz => hz.2.2).mono (okT.up (p := H.next) (slv := slv') (vi := .slice via li.length vic vix) b7.1 From.rfl From.rfl f7)
            obtain ⟨cd, dS, _, _, dR⟩ := hD7.open
            obtain ⟨co7, o7', o7R⟩ := hT7.o
            obtain ⟨wda, wdc, wdx, rfl, _⟩ := dS.form
            obtain ⟨v7a, v7c, v7x, rfl, _⟩ := o7'.form
            have hla : (lo ++ A1).length = lo.length + A1.length := List.length_append
            refine walk g8 ?_
            refine Oq.appendL (own := o7') (new := cd) (m := A2.length) (by simp (disch := omega) [g8, -getElem?_pos, wrapI64, tdivN, tmodN, ipos, ineg, dpos, dneg, slc_l, slc_h, slc_lh, slc_hm, slc_lhm, slc_0, slcR_some, slcR_none, cutS_ok, cutA_ok, byteAt_ok]; first | done | (repeat' (first | rfl | apply And.intro))) ⟨_, rfl, by simp; first | done | (repeat' (first | rfl | apply And.intro))⟩ rfl (by kernel_rfl) (by kernel_rfl) (dS.src') dS.len dR.all1 (by omega) (by omega) fun w8 H8 o8 b8 s8 l8 => ?_
            have hT8 := (hT7.swap.app (o7R.mono fun z hz => ⟨hz.1, hz.2.2, hz.2.1⟩) (dR.mono fun z hz => ⟨hz.1, hz.2.2, hz.2.1⟩) (by rw [List.length_append]; exact o8) b8 s8 l8).swap
            refine walk g9 ?_
            have hUf : Upd (fun z => H.next ≤ z) H H3 := (hU.then hkx).trans hu3 fun z hz h' => by
              rcases h' with h' | h'
              · omega
              · exact hsl z h'
            have hv7 : ∀ z, slBlock (AV.slice v7a (lo ++ A1).length v7c v7x) = some z → H.next ≤ z := fun z hz => by
              rcases s7 with e | e
              · exact hvo z (e ▸ hz)
              · rw [e] at hz; injection hz with hz; have := hUf.next; omega
            refine Roundq.normal (60 - (i + 1)) (by omega) ⟨i + 1, slv', _, w8, _, li, lo ++ A1 ++ A2, by omega, rfl, by simp [g1], by simp [g6], by simp [g7], by simp, by simp, (hUf.butOne b7 fun z hz _ => hvo z hz).butOne b8 fun z hz _ => hv7 z hz, fun z hz => hsl z (by rw [← hs3]; exact hz), hvi, fun z hz => ?_, hT8, by rw [heq, hall]; simp, by omega⟩
            rcases s8 with e | e
            · exact hv7 z (e ▸ hz)
            · rw [e] at hz; injection hz with hz; have := hUf.next; have := b7.1; omega
    · skip
      by_cases hlt : i < l.length
      · have h60 : ¬ i < 60 := fun h => hgo ⟨hlt, h⟩
        refine walk (both g1 (both g6 (both g7 (both g8 (both g9 (both hlt h60)))))) ?_
        refine Cl.wfK ((dump_ok hT.q).mono fun w H3 hn3 ⟨c, hF3, hlt3, hR3⟩ hw3 => ?_)
        have hmany := hT.q.many
        have hfew := hT.q.few
        have hlen : (allP ql).length ≤ 64 := by have := allP_few (n := 4) hfew; omega
        obtain ⟨wa, wc, wx, rfl, _⟩ := hF3.own.form
        have hT3 := hT.kept hF3.keep
        refine walk g7 ?_
        have hvl : ∀ z, H'.next ≤ z → slBlock (AV.slice voa lo.length voc vox) ≠ some z := fun z hz e => by have := (hT.bo z e).1.1; omega
        have hdl : List0 partS H3 (fun b => b < H3.next ∧ slBlock (AV.slice voa lo.length voc vox) ≠ some b) (.slice wa ql.length wc wx) ql := (hF3.own.list0 (S := partS) hR3 (by omega)).mono fun z hz => by
          rcases hz with (hz | hz) | hz
          · exact ⟨by have := hz.1.1; have := hF3.keep.next; omega, hz.2.2⟩
          · exact ⟨hz.2.1, hvl z hz.1⟩
          · exact ⟨hlt3 z hz, hvl z (hF3.new z hz)⟩
        refine Cl.wfK ((all_ok hdl (by omega) hfew (fun z hz => hz.1)).mono fun w H4 hn4 ⟨c4, hF4, hR4⟩ hw4 => ?_)
        obtain ⟨xa, xc, xx, rfl, _⟩ := hF4.own.form
        have hT4 := hT3.kept hF4.keep
        obtain ⟨co4, o4, o4R⟩ := hT4.o
        obtain ⟨ci4, i4, i4R⟩ := hT4.i
        refine walk (both g7 g8) ?_
        refine Oq.appendL (own := o4) (new := c4) (m := (allP ql).length) (by simp (disch := omega) [g8, -getElem?_pos, wrapI64, tdivN, tmodN, ipos, ineg, dpos, dneg, slc_l, slc_h, slc_lh, slc_hm, slc_lhm, slc_0, slcR_some, slcR_none, cutS_ok, cutA_ok, byteAt_ok]; first | done | (repeat' (first | rfl | apply And.intro))) ⟨_, rfl, by simp; first | done | (repeat' (first | rfl | apply And.intro))⟩ rfl (by kernel_rfl) (by kernel_rfl) (hF4.own.sl.src') hF4.own.len hR4.all1 (by omega) (by omega) fun w7 H7 o7 b7 s7 l7 => ?_
        have u7 : Upd (fun z => slBlock (AV.slice voa lo.length voc vox) = some z) H4 H7 := Upd.rfl.butOne b7 fun z hz _ => hz
        obtain ⟨v7a, v7c, v7x, rfl, _⟩ := o7.form
        refine walk (both g7 g8) ?_
        have hli : li.length = lo.length + (allP ql).length := by rw [heq, List.length_append]
        have L1 : List0 passS H7 (fun _ => True) (.slice v7a (lo.length + (allP ql).length) v7c v7x) li := by
          have q : Rows passS H7 (fun _ => True) (co4 ++ c4) li := by
            rw [heq]
            refine ((o4R.upd u7 fun z hz => hz.2.2).mono fun _ _ => trivial).app ((hR4.upd u7 fun z hz e => hz.2 e).mono fun _ _ => trivial)
          exact List0.mk (c := co4 ++ c4) (by rw [hli]; exact o7.sl) (fun _ _ _ => trivial) (by unfold maxLen; omega) q
        have L2 : List0 passS H7 (fun _ => True) (.slice via li.length vic vix) li := List0.mk (i4.sl.upd u7 fun z hz _ e => (hT4.bi z hz).2 e) (fun _ _ _ => trivial) (by unfold maxLen; omega) ((i4R.upd u7 fun z hz => hz.2.2).mono fun _ _ => trivial)
        refine (given_ok L1 L2).mono fun w H8 hn8 ⟨⟨t8, e8, ht8⟩, hk8⟩ => ?_
        obtain rfl : t8 = true := ht8.2 rfl
        subst e8
        refine walk g7 ?_
        refine Cl.prim (v := .bool true) (H' := H8) rfl rfl ?_
        refine walk g7 ?_
        exact rfl
      · refine walk (both g1 (both g6 (both g7 (both g8 (both g9 hlt))))) ?_
        refine Cl.wfK ((dump_ok hT.q).mono fun w H3 hn3 ⟨c, hF3, hlt3, hR3⟩ hw3 => ?_)
        have hmany := hT.q.many
        have hfew := hT.q.few
        have hlen : (allP ql).length ≤ 64 := by have := allP_few (n := 4) hfew; omega
        obtain ⟨wa, wc, wx, rfl, _⟩ := hF3.own.form
        have hT3 := hT.kept hF3.keep
        refine walk g7 ?_
        have hvl : ∀ z, H'.next ≤ z → slBlock (AV.slice voa lo.length voc vox) ≠ some z := fun z hz e => by have := (hT.bo z e).1.1; omega
        have hdl : List0 partS H3 (fun b => b < H3.next ∧ slBlock (AV.slice voa lo.length voc vox) ≠ some b) (.slice wa ql.length wc wx) ql := (hF3.own.list0 (S := partS) hR3 (by omega)).mono fun z hz => by
          rcases hz with (hz | hz) | hz
          · exact ⟨by have := hz.1.1; have := hF3.keep.next; omega, hz.2.2⟩
          · exact ⟨hz.2.1, hvl z hz.1⟩
          · exact ⟨hlt3 z hz, hvl z (hF3.new z hz)⟩
        refine Cl.wfK ((all_ok hdl (by omega) hfew (fun z hz => hz.1)).mono fun w H4 hn4 ⟨c4, hF4, hR4⟩ hw4 => ?_)
        obtain ⟨xa, xc, xx, rfl, _⟩ := hF4.own.form
        have hT4 := hT3.kept hF4.keep
        obtain ⟨co4, o4, o4R⟩ := hT4.o
        obtain ⟨ci4, i4, i4R⟩ := hT4.i
        refine walk (both g7 g8) ?_
        refine Oq.appendL (own := o4) (new := c4) (m := (allP ql).length) (by simp (disch := omega) [g8, -getElem?_pos, wrapI64, tdivN, tmodN, ipos, ineg, dpos, dneg, slc_l, slc_h, slc_lh, slc_hm, slc_lhm, slc_0, slcR_some, slcR_none, cutS_ok, cutA_ok, byteAt_ok]; first | done | (repeat' (first | rfl | apply And.intro))) ⟨_, rfl, by simp; first | done | (repeat' (first | rfl | apply And.intro))⟩ rfl (by kernel_rfl) (by kernel_rfl) (hF4.own.sl.src') hF4.own.len hR4.all1 (by omega) (by omega) fun w7 H7 o7 b7 s7 l7 => ?_
        have u7 : Upd (fun z => slBlock (AV.slice voa lo.length voc vox) = some z) H4 H7 := Upd.rfl.butOne b7 fun z hz _ => hz
        obtain ⟨v7a, v7c, v7x, rfl, _⟩ := o7.form
        refine walk (both g7 g8) ?_
        have hli : li.length = lo.length + (allP ql).length := by rw [heq, List.length_append]
        have L1 : List0 passS H7 (fun _ => True) (.slice v7a (lo.length + (allP ql).length) v7c v7x) li := by
          have q : Rows passS H7 (fun _ => True) (co4 ++ c4) li := by
            rw [heq]
            refine ((o4R.upd u7 fun z hz => hz.2.2).mono fun _ _ => trivial).app ((hR4.upd u7 fun z hz e => hz.2 e).mono fun _ _ => trivial)
          exact List0.mk (c := co4 ++ c4) (by rw [hli]; exact o7.sl) (fun _ _ _ => trivial) (by unfold maxLen; omega) q
        have L2 : List0 passS H7 (fun _ => True) (.slice via li.length vic vix) li := List0.mk (i4.sl.upd u7 fun z hz _ e => (hT4.bi z hz).2 e) (fun _ _ _ => trivial) (by unfold maxLen; omega) ((i4R.upd u7 fun z hz => hz.2.2).mono fun _ _ => trivial)
        refine (given_ok L1 L2).mono fun w H8 hn8 ⟨⟨t8, e8, ht8⟩, hk8⟩ => ?_
        obtain rfl : t8 = true := ht8.2 rfl
        subst e8
        refine walk g7 ?_
        refine Cl.prim (v := .bool true) (H' := H8) rfl rfl ?_
        refine walk g7 ?_
        exact rfl
end Go.Abs

/- Chapter 10: QueueOrder. -/
namespace Go.Abs
open Go.Proofs
set_option maxRecDepth 100000
set_option linter.unusedVariables false
set_option linter.unusedSimpArgs false

/-- Bytes, as rows. -/
def byteS : Shape UInt8 where
  s := 1
  R _ _ cs x := cs = [.int .u8 x.toNat]
  len h := by rw [h]; rfl
  one h := by rw [h]; rfl
  keep h _ _ := h
  mono h _ := h
@[simp] theorem byteS_s : byteS.s = 1 := rfl
theorem rows_bytes {H : Heap} {ok : Nat → Prop} (l : List UInt8) : Rows byteS H ok (cellsOfBytes l) l := by
  refine ⟨by simp, fun i x hx => ?_⟩
  show ((cellsOfBytes l).drop (i * 1)).take 1 = [.int .u8 x.toNat]
  rw [Nat.mul_one]
  have hi := lt_of_get? hx
  apply List.ext_getElem?
  intro j
  rw [List.getElem?_take]
  cases j with
  | zero => simp [cellsOfBytes, hx]
  | succ j => simp
theorem rows_bytes_eq {H : Heap} {ok : Nat → Prop} {c : List AV} {l : List UInt8} (h : Rows byteS H ok c l) : c = cellsOfBytes l := by
  have hl := h.1
  rw [byteS_s, Nat.mul_one] at hl
  apply List.ext_getElem?
  intro i
  by_cases hi : i < l.length
  · obtain ⟨x, hx⟩ := get_lt hi
    have h2 := h.2 i x hx
    have h2 : (c.drop (i * 1)).take 1 = [.int .u8 x.toNat] := h2
    rw [Nat.mul_one] at h2
    have := sub_get (i := 0) h2 (by decide)
    rw [Nat.add_zero] at this
    rw [this]; simp [cellsOfBytes, hx]
  · rw [List.getElem?_eq_none (by omega), List.getElem?_eq_none (by simp; omega)]
/-- A text out of a slice of bytes that may be empty. -/
theorem conv_or {P : Program} {H : Heap} {s t : TypeId} {v : AV} {bs : List UInt8} (h1 : bytesT P s = true) (h2 : isStrT P t = true) (h : Sl H 1 v bs.length (cellsOfBytes bs)) (hb : bs = [] → ∃ z c el w m, v = .slice (some (z, 0)) 0 0 none ∧ z < H.next ∧ H.get z = some (.cells c el w m)) : convR P s t (some v) H = some (.str bs, H) := by
  by_cases hn : bs = []
  · refine conv_sl h1 h2 h fun b o n c x e => ?_
    obtain ⟨z, c0, el, w, m, e2, q1, q2⟩ := hb hn
    rw [e2] at e
    injection e with e3 e4 _ _
    simp only [Option.some.injEq, Prod.mk.injEq] at e3
    obtain ⟨rfl, rfl⟩ := e3
    subst e4
    exact ⟨q1, c0, el, w, m, q2, by omega⟩
  · exact conv_ne h1 h2 h hn
/-- While nothing has come, the slice is the one made. -/
def Bare (H : Heap) (v : AV) (l : List UInt8) : Prop := l = [] → ∃ z c el w m, v = .slice (some (z, 0)) 0 0 none ∧ z < H.next ∧ H.get z = some (.cells c el w m)
theorem Bare.upd {H H' : Heap} {v : AV} {l : List UInt8} {fp : Nat → Prop} (h : Bare H v l) (u : Upd fp H H') (hd : ∀ z, slBlock v = some z → ¬ fp z) : Bare H' v l := fun e => by
  obtain ⟨z, c, el, w, m, rfl, q1, q2⟩ := h e
  exact ⟨z, c, el, w, m, rfl, by have := u.next; omega, (u.keep z q1 (hd z rfl)).trans q2⟩
theorem Bare.app {H H' : Heap} {v v' : AV} {l k : List UInt8} {m : Nat} (h : Bare H v l) (hm : k.length = m) (hz : m = 0 → v' = v ∧ H' = H) : Bare H' v' (l ++ k) := fun e => by
  have hl : l = [] := (List.append_eq_nil_iff.1 e).1
  have hk : k = [] := (List.append_eq_nil_iff.1 e).2
  subst hk
  obtain ⟨rfl, rfl⟩ := hz (by simpa using hm.symm)
  exact h hl

set_option maxHeartbeats 8000000 in
theorem queueOrder_main (z : Int) (va : AV) (l : List QAct) (H : Heap) (hz0 : 0 ≤ z) (hz : z ≤ 255) (hl : List0 qactS H (fun b => b < H.next) va l) :
    Cl Try.prog pr10 3 [.int .u8 z, va] H fun v _ => v = .bool true := by
  obtain ⟨a, cap, ex, rfl, k1, m1, n1⟩ := hl.form
  unfold maxLen at n1
  have hN : 1 ≤ 1 + z % 200 ∧ 1 + z % 200 ≤ 4096 := by omega
  have hmod : z.tmod 200 = z % 200 := Int.tmod_eq_emod_of_nonneg hz0
  refine Cl.enter Try.func3 rfl rfl Try.ntmps3 (by simp) ?_
  refine walk hmod ?_
  refine Cl.wfK ((new_yes (1 + z % 200) hN _).mono fun v H1 hn1 ⟨e, hk, hQ⟩ hw1 => ?_)
  subst e
  generalize 1 + z % 200 = N at *
  refine walk none0 ?_
  have hk0 := hk.next
  have hplt := hw1.lt hQ.q
  refine Wq.loop (fun m e H' => ∃ (i : Nat) (slv vi vo : AV) (ql : List Part) (li lo : List UInt8), i ≤ 60 ∧ m = 60 - i ∧ e 1 = .slice a l.length cap ex ∧ e 6 = .ptr (some (H.next, 0)) ∧ e 7 = vi ∧ e 8 = vo ∧ e 9 = .int .i64 i ∧
    Upd (fun z => H.next ≤ z) H H' ∧ (∀ z, slBlock slv = some z → H.next ≤ z) ∧ (∀ z, slBlock vi = some z → H.next ≤ z) ∧ (∀ z, slBlock vo = some z → H.next ≤ z) ∧ Four byteS 5 H' H.next slv vi vo ql li lo N ∧ Bare H' vi li ∧ Bare H' vo lo ∧ li = lo ++ flatB ql ∧ li.length ≤ 200 * i) 60 ?_ ?_
  · have hFr : Four byteS 5 ((H1.push (.cells [] 5 true false)).push (.cells [] 5 true false)) H.next (.slice none 0 0 none) (.slice (some (H1.next, 0)) 0 0 none) (.slice (some (H1.next + 1, 0)) 0 0 none) [] [] [] N := by
      refine ⟨(hQ.kept ((Upd.rfl.push _).push _) hplt).mono (fun _ h => h.elim) fun z hz => hz.1, by simp; omega, ⟨[], .empty _, Rows.nil⟩, ⟨[], .empty _, Rows.nil⟩, fun z hz => ?_, fun z hz => ?_⟩
      · simp [slBlock] at hz; subst hz
        exact ⟨⟨by simp <;> omega, by omega, by simp [slBlock]⟩, by simp [slBlock]⟩
      · simp [slBlock] at hz; subst hz
        exact ⟨⟨by simp, by omega, by simp [slBlock]⟩, by simp [slBlock]⟩
    exact ⟨0, _, _, _, _, _, _, by omega, by omega, by simp, by simp, by simp, by simp, by simp, ((Upd.of hk).push _).push _, by simp [slBlock], by simp [slBlock]; omega, by simp [slBlock]; omega, hFr, fun _ => ⟨H1.next, [], 5, true, false, rfl, by simp <;> omega, by simp⟩, fun _ => ⟨H1.next + 1, [], 5, true, false, rfl, by simp, by simp⟩, by simp [flatB], by simp⟩
  · rintro m e H' ⟨i, slv, vi, vo, ql, li, lo, hi, rfl, g1, g6, g7, g8, g9, hU, hsl, hvi, hvo, hT, hBi, hBo, heq, hsz⟩
    obtain ⟨ci, i1, i2⟩ := hT.i
    obtain ⟨co, o1, o2⟩ := hT.o
    obtain ⟨via, vic, vix, rfl, _⟩ := i1.form
    obtain ⟨voa, voc, vox, rfl, _⟩ := o1.form
    have hUn := hU.next
    have hlo : lo.length ≤ 200 * i := by have := congrArg List.length heq; rw [List.length_append] at this; omega
    by_cases hgo : i < l.length ∧ i < 60
    · obtain ⟨hlt, h60⟩ := hgo
      obtain ⟨x, hx⟩ := get_lt hlt
      have hl' := hl.upd hU fun z hz => by omega
      obtain ⟨b, o, d, t1, w1, mk1, cs1, rfl, hokb, hb1, hg1, hf1, hd1, hr1⟩ := hl'.at hx
      obtain ⟨vb, rfl, hvb, hxn, hxm⟩ := qact_open hr1
      simp only [qactS_s] at hf1 hd1
      obtain ⟨vb', e', hS, hSb, hSm⟩ := hvb
      injection e' with e' _; subst e'
      obtain ⟨ba, bc, bx, rfl, hbc, hbx⟩ := hS.form
      unfold maxLen at hSm
      have hone : [AV.int .i64 x.kind, .slice ba x.b.length bc bx, .int .i64 x.n, .int .i64 x.most].all AV.one = true := rfl
      refine Wq.seq ?_
      refine Wq.seq ?_
      refine walkr (both g1 (both g6 (both g7 (both g8 (both g9 (both hlt (both h60 (both hg1 hd1)))))))) ?_
      refine Wq.seq ?_
      refine Wq.block ?_
      refine Wq.seq ?_
      refine walkr (both g1 (both g6 (both g7 (both g8 (both g9 (both hlt (both h60 (both hg1 hd1)))))))) ?_
      generalize hHb : Heap.set (Heap.push H' _) _ _ = Hb
      have kb : Keep H' Hb := by subst hHb; exact (Upd.rfl.push _).set _ (by simp) (by omega)
      have gb : Hb.get H'.next = some (.cells [.int .i64 x.kind, .slice ba x.b.length bc bx, .int .i64 x.n, .int .i64 x.most] 27 true false) := by subst hHb; simp
      have nb : Hb.next = H'.next + 1 := by subst hHb; simp
      clear hHb
      refine Wq.seq (Wq.mono (Q := fun z e Hx => z = .normal ∧ (∃ ba bc bx, Hx.get H'.next = some (.cells [.int .i64 x.kind, .slice ba (x.b.take 200).length bc bx, .int .i64 x.n, .int .i64 x.most] 27 true false) ∧ bytesS.R Hx (fun b => b < H.next) [.slice ba (x.b.take 200).length bc bx] (x.b.take 200)) ∧ Keep H' Hx ∧ Hx.next = H'.next + 1 ∧
        e 1 = .slice (some (b, o)) l.length cap ex ∧ e 6 = .ptr (some (H.next, 0)) ∧ e 7 = .slice via li.length vic vix ∧ e 8 = .slice voa lo.length voc vox ∧ e 9 = .int .i64 i ∧ e 10 = .ptr (some (H'.next, 0))) ?_ ?_)
      · by_cases hl2 : 200 < x.b.length
        · obtain ⟨b1, o1, c1, t1, w1, m1, rfl, q1, q2, q3, q4⟩ := hS.at (by omega)
          have hlt2 : (x.b.take 200).length = 200 := by rw [List.length_take]; omega
          have hsub := hS.sub (k := 0) (m := 200) (cap' := bc) (ex' := bx) (by omega) (by omega) hbx
          simp only [Nat.zero_mul, Nat.add_zero, List.drop_zero, Nat.mul_one, bytes_take] at hsub
          refine walk (both hl2 (both hbx (both gb (both g1 (both g6 (both g7 (both g8 g9))))))) ?_
          have k2 : Keep H' (Hb.set H'.next (.cells [.int .i64 x.kind, .slice (some (b1, o1)) 200 bc bx, .int .i64 x.n, .int .i64 x.most] 27 true false)) := kb.set _ (by omega) (by omega)
          refine ⟨rfl, ⟨some (b1, o1), bc, bx, by simp [hlt2], ⟨_, rfl, ?_, fun z hz h0 => hSb z hz (by omega), by rw [hlt2]; unfold maxLen; omega⟩⟩, k2, by simp [nb], by simp [g1], by simp [g6], by simp [g7], by simp [g8], by simp [g9], by simp⟩
          rw [hlt2]; exact hsub.kept k2
        · have ht : x.b.take 200 = x.b := List.take_of_length_le (by omega)
          refine walk (both hl2 (both gb (both g1 (both g6 (both g7 (both g8 g9)))))) ?_
          rw [ht]
          exact ⟨rfl, ⟨ba, bc, bx, gb, ⟨_, rfl, hS.kept kb, hSb, by unfold maxLen; omega⟩⟩, kb, nb, by simp [g1], by simp [g6], by simp [g7], by simp [g8], by simp [g9], by simp⟩
      · clear hS hSb hSm hbc hbx gb nb hd1 hr1 hone
        have hA2 : (x.b.take 200).length ≤ 200 := by rw [List.length_take]; omega
        generalize x.b.take 200 = bs at *
        rintro z e Hx _ ⟨rfl, ⟨ba, bc, bx, gx, ⟨va', e', hS, hSb, hSm⟩⟩, hkx, hnx, g1, g6, g7, g8, g9, g10⟩
        injection e' with e' _; subst e'
        refine Thenq.normal ?_
        have hT' := hT.kept hkx
        have hBi' := hBi.upd hkx fun _ _ h => h
        have hBo' := hBo.upd hkx fun _ _ h => h
        by_cases k0 : x.kind = 1
        · rw [k0] at gx
          refine walk (both g1 (both g6 (both g7 (both g8 (both g9 (both g10 gx)))))) ?_
          refine Cl.wfK ((take_any hT'.q x.n x.most hxn.2 hxm.1 hxm.2).mono fun w H3 hn3 ⟨slv', wb, wp, wd, ql', B, A1, A2, e3, hu3, hs3, hQ3, hB3, hP3, hD3, hall, hbb, hA1, hA3⟩ hw3 => ?_)
          subst e3
          have hT3 := hT'.queue hu3 (From.of (.inl hs3)) hQ3 fun z hz => hz.2
          obtain ⟨wb', e4, bS, _, _⟩ := hB3
          injection e4 with e4 _; subst e4
          obtain ⟨wba, wbc, wbx, rfl, _⟩ := bS.form
          obtain ⟨co3, o3, o3R⟩ := hT3.o
          have hfitb : B.length ≤ 4096 := by have h1' := congrArg List.length hbb; rw [flatB_total, List.length_append] at h1'; have := hT'.q.fits; omega
          refine walk (both g1 (both g6 (both g7 (both g8 g9)))) ?_
          refine Oq.appendZ (own := o3) (new := cellsOfBytes B) (m := B.length) (by simp (disch := omega) [g8, -getElem?_pos, wrapI64, tdivN, tmodN, ipos, ineg, dpos, dneg, slc_l, slc_h, slc_lh, slc_hm, slc_lhm, slc_0, slcR_some, slcR_none, cutS_ok, cutA_ok, byteAt_ok]; first | done | (repeat' (first | rfl | apply And.intro))) ⟨_, rfl, by simp; first | done | (repeat' (first | rfl | apply And.intro))⟩ rfl (by kernel_rfl) (by kernel_rfl) (bS.src') (by simp) (cellsOfBytes_one _) (by omega) (by omega) fun w7 H7 o7 b7 s7 l7 => ?_
          have hT7 := (hT3.swap.app (ls := B) (o3R.mono fun z hz => ⟨hz.1, hz.2.2, hz.2.1⟩) (rows_bytes B) (by rw [List.length_append]; exact o7) b7 s7 l7.1).swap
          refine walk g9 ?_
          have hUf : Upd (fun z => H.next ≤ z) H H3 := (hU.then hkx).trans hu3 fun z hz h' => by
            rcases h' with h' | h'
            · omega
            · exact hsl z h'
          have u7 : Upd (fun z => slBlock (AV.slice voa lo.length voc vox) = some z) H3 H7 := Upd.rfl.butOne b7 fun z hz _ => hz
          refine Roundq.normal (60 - (i + 1)) (by omega) ⟨i + 1, slv', _, w7, _, li, lo ++ B, by omega, rfl, by simp [g1], by simp [g6], by simp [g7], by simp, by simp, hUf.butOne b7 fun z hz _ => hvo z hz, fun z hz => hsl z (by rw [← hs3]; exact hz), hvi, fun z hz => ?_, hT7, (hBi'.upd hu3 fun z hz => okQ.not z (hT'.bi z hz).1).upd u7 fun z hz => (hT3.bi z hz).2, (hBo'.upd hu3 fun z hz => okQ.not z (hT'.bo z hz).1).app rfl l7.2, by rw [heq, hbb]; simp, by omega⟩
          rcases s7 with e | e
          · exact hvo z (e ▸ hz)
          · rw [e] at hz; injection hz with hz; have := hUf.next; omega
        · refine walk (both g1 (both g6 (both g7 (both g8 (both g9 (both g10 (both gx k0))))))) ?_
          refine Wq.regionM [(1, 0), (2, 0), (3, 0), (4, 0), (5, 0), (6, 2), (7, 0), (8, 0), (0, 0), (9, 0), (10, 0), (11, 0), (12, 0), (13, 0), (14, 0)] (by kernel_rfl) ?_
          refine mwalk (both g6 (both g10 gx)) ?_
          refine Dq.appendG (own := (.empty _)) (new := cellsOfBytes bs) (q := bs.length) rfl met_none (by simp (disch := omega) [g6, -getElem?_pos, wrapI64, tdivN, tmodN, ipos, ineg, dpos, dneg, slc_l, slc_h, slc_lh, slc_hm, slc_lhm, slc_0, slcR_some, slcR_none, cutS_ok, cutA_ok, byteAt_ok]; first | done | (repeat' (first | rfl | apply And.intro))) ⟨_, rfl, by simp; first | done | (repeat' (first | rfl | apply And.intro))⟩ rfl (by kernel_rfl) (by kernel_rfl) ((hS.push _).src') (by simp) (cellsOfBytes_one _) (by omega) (by omega) fun w1 H4 o4 b4 s4 => ?_
          have kx4 : Keep Hx H4 := (Upd.rfl.push _).butOne b4 fun z hz _ => by simp [slBlock] at hz; omega
          have gx4 := (kx4.get (show H'.next < Hx.next by omega)).trans gx
          have hw1n : ∀ z, slBlock w1 = some z → Hx.next ≤ z := fun z hz => by
            rcases s4 with e | e
            · rw [e] at hz; simp [slBlock] at hz; omega
            · rw [e] at hz; simp at hz; omega
          obtain ⟨w1a, w1c, w1x, rfl, _⟩ := o4.form
          refine mwalk (both g6 (both g9 (both g10 (both gx gx4)))) ?_
          refine Cl.wfK ((passed_ok x.n i _ (by omega) (by omega) hxn.1 hxn.2).mono fun w H3 hn3 ⟨ls, c3, hl6, hF3, hw3b, hR3⟩ hw3 => ?_)
          obtain ⟨wa, wc, wx, rfl, _⟩ := hF3.own.form
          have k3 := hF3.keep
          have h3n := k3.next
          have hx4n := kx4.next
          refine mwalk g6 ?_
          simp only [Nat.zero_add, List.nil_append] at o4
          have hHx3 : Keep Hx H3 := kx4.then k3
          have hnewT : ∀ z, Hx.next ≤ z → z < H3.next → okT H3 H.next slv (.slice via li.length vic vix) (.slice voa lo.length voc vox) z := fun z q1 q2 => hT'.new q1 q2
          have hRp : Rows passS H3 (okT H3 H.next slv (.slice via li.length vic vix) (.slice voa lo.length voc vox)) c3 ls := hR3.mono fun z hz => by
            rcases hz with hz | hz
            · exact hz.elim
            · exact hnewT z (by have := hz.1; omega) (by have := hz.2.1; omega)
          have hw1n' : ∀ z, slBlock (AV.slice w1a bs.length w1c w1x) = some z → Hx.next ≤ z := fun z hz => hw1n z (by rw [Nat.zero_add]; exact hz)
          have hb5 : bytesS.R H3 (okT H3 H.next slv (.slice via li.length vic vix) (.slice voa lo.length voc vox)) [.slice w1a bs.length w1c w1x] bs := ⟨_, rfl, o4.sl.kept k3, fun z hz h0 => hnewT z (hw1n' z hz) (by have := o4.lt0 h0 z hz; omega), hSm⟩
          have hl5 : List0 passS H3 (okT H3 H.next slv (.slice via li.length vic vix) (.slice voa lo.length voc vox)) (.slice wa ls.length wc wx) ls := List0.mk hF3.own.sl (fun z hz h0 => hnewT z (by have := hF3.new z hz; omega) (hw3b z hz)) (by unfold maxLen; omega) hRp
          have hT5 := hT'.kept hHx3
          refine Cl.wfK ((put_ok hT5.q _ _ bs ls hb5 hl5 (fun _ h => h.1) (by omega) (by omega)).mono fun w H6 hn6 ⟨e6, slv', hu6, hs6, hQ6⟩ hw6 => ?_)
          subst e6
          have hT6 := hT5.queue hu6 (From.of hs6) hQ6 fun z hz => by
            rcases hz with hz | hz | hz
            · exact hz.2
            · exact hz.2
            · exact ⟨fun e => by have := (hT5.bi z e).1.1; omega, fun e => by have := (hT5.bo z e).1.1; omega⟩
          have hUf : Upd (fun z => H.next ≤ z) H H6 := ((hU.then hkx).then hHx3).trans hu6 fun z hz h' => by
            rcases h' with h' | h'
            · omega
            · exact hsl z h'
          have hslf : ∀ z, slBlock slv' = some z → H.next ≤ z := fun z hz => by
            rcases hs6 with e | ⟨b, e, hb⟩
            · exact hsl z (e ▸ hz)
            · rw [e] at hz; injection hz with hz; omega
          have h6n := hu6.next
          have hfit := hT5.q.fits
          obtain ⟨hp0, hp1, hp2⟩ := flatB_put (most := N) (ql := ql) (bs := bs) (ls := ls) hfit.1
          generalize (putQ N ql bs ls).2.1 = kk at *
          generalize (putQ N ql bs ls).2.2 = ee at *
          generalize (putQ N ql bs ls).1 = ql2 at *
          have gx6 := (hu6.keep H'.next (by omega) (fun h' => by have := hT.lt; rcases h' with h' | h'; (· omega); (· have := hT.q.lt _ h'; omega))).trans ((hHx3.get (by omega)).trans gx)
          have hS6 : Sl H6 1 (.slice ba bs.length bc bx) bs.length (cellsOfBytes bs) := (hS.kept hHx3).upd hu6 fun z hz h0 h' => by
            have hz2 := hSb z hz (by omega)
            rcases h' with h' | h'
            · omega
            · have := hsl z h'; omega
          obtain ⟨ba', bc', bx', e9, hbc, hbx⟩ := hS6.form
          injection e9 with e10 _ e11 e12
          subst e11; subst e12
          have hlk : (bs.take kk.toNat).length = kk.toNat := by rw [List.length_take]; omega
          have hsub : Sl H6 1 (.slice ba kk.toNat bc bx) kk.toNat (cellsOfBytes (bs.take kk.toNat)) ∨ ba = none := by
            cases ba with
            | none => exact .inr rfl
            | some q =>
              obtain ⟨b2, o2⟩ := q
              have := hS6.sub (k := 0) (m := kk.toNat) (cap' := bc) (ex' := bx) (by omega) (by omega) hbx
              simp only [Nat.zero_mul, Nat.add_zero, List.drop_zero, Nat.mul_one, bytes_take] at this
              exact .inl this
          refine mwalk (both g6 (both g9 g10)) ?_
          obtain ⟨ci6, i6, i6R⟩ := hT6.i
          have hBi6 := (hBi'.upd hHx3 fun _ _ h => h).upd hu6 fun z hz => okQ.not z (hT5.bi z hz).1
          have hBo6 := (hBo'.upd hHx3 fun _ _ h => h).upd hu6 fun z hz => okQ.not z (hT5.bo z hz).1
          cases ba with
          | none =>
            have hb0 : bs.length = 0 := by
              rcases Nat.eq_zero_or_pos bs.length with h0 | h0
              · exact h0
              · obtain ⟨b, o, c, t, w, m, e, _⟩ := hS6.at h0; cases e
            have hk0 : kk = 0 := by omega
            subst hk0
            rw [hb0] at gx6
            refine walk (both g1 (both g6 (both g7 (both g8 (both g9 (both g10 gx6)))))) ?_
            refine Oq.appendZ (own := i6) (new := ([] : List AV)) (m := 0) (by simp (disch := omega) [g7, -getElem?_pos, wrapI64, tdivN, tmodN, ipos, ineg, dpos, dneg, slc_l, slc_h, slc_lh, slc_hm, slc_lhm, slc_0, slcR_some, slcR_none, cutS_ok, cutA_ok, byteAt_ok]; first | done | (repeat' (first | rfl | apply And.intro))) ⟨_, rfl, by simp; first | done | (repeat' (first | rfl | apply And.intro))⟩ rfl (by kernel_rfl) (by kernel_rfl) ((by simp [srcLen, srcCells])) (by simp [g7]) (by simp [g7]) (by omega) (by omega) fun w7 H7 o7 b7 s7 l7 => ?_
            have hT7 := hT6.app (ls := bs.take (0 : Int).toNat) i6R (rows_bytes _) (by rw [List.length_append, hlk]; exact o7) b7 s7 l7.1
            refine walk g9 ?_
            refine Roundq.normal (60 - (i + 1)) (by omega) ⟨i + 1, slv', w7, _, _, li ++ bs.take (0 : Int).toNat, lo, by omega, rfl, by simp [g1], by simp [g6], by simp, by simp [g8], by simp, hUf.butOne b7 fun z hz _ => hvi z hz, hslf, fun z hz => ?_, hvo, hT7, hBi6.app hlk l7.2, hBo6.upd (Upd.rfl.butOne (fp := fun z => slBlock (AV.slice via li.length vic vix) = some z) b7 fun z hz _ => hz) fun z hz => (hT6.bo z hz).2, ?_, by rw [List.length_append]; omega⟩
            · rcases s7 with e | e
              · exact hvi z (e ▸ hz)
              · rw [e] at hz; injection hz with hz; omega
            · rw [hp2, heq, List.append_assoc]
          | some q =>
            obtain ⟨b2, o2⟩ := q
            have hsub' := hsub.resolve_right (by simp)
            refine walk (both g1 (both g6 (both g7 (both g8 (both g9 (both g10 (both gx6 (both hp0 (both hp1 hbx))))))))) ?_
            refine Oq.appendZ (own := i6) (new := cellsOfBytes (bs.take kk.toNat)) (m := kk.toNat) (by simp (disch := omega) [g7, -getElem?_pos, wrapI64, tdivN, tmodN, ipos, ineg, dpos, dneg, slc_l, slc_h, slc_lh, slc_hm, slc_lhm, slc_0, slcR_some, slcR_none, cutS_ok, cutA_ok, byteAt_ok]; first | done | (repeat' (first | rfl | apply And.intro))) ⟨_, rfl, by simp; first | done | (repeat' (first | rfl | apply And.intro))⟩ rfl (by kernel_rfl) (by kernel_rfl) (hsub'.src') (by simp; omega) (cellsOfBytes_one _) (by omega) (by omega) fun w7 H7 o7 b7 s7 l7 => ?_
            have hT7 := hT6.app (ls := bs.take kk.toNat) i6R (rows_bytes _) (by rw [List.length_append, hlk]; exact o7) b7 s7 l7.1
            refine walk g9 ?_
            refine Roundq.normal (60 - (i + 1)) (by omega) ⟨i + 1, slv', w7, _, _, li ++ bs.take kk.toNat, lo, by omega, rfl, by simp [g1], by simp [g6], by simp, by simp [g8], by simp, hUf.butOne b7 fun z hz _ => hvi z hz, hslf, fun z hz => ?_, hvo, hT7, hBi6.app hlk l7.2, hBo6.upd (Upd.rfl.butOne (fp := fun z => slBlock (AV.slice via li.length vic vix) = some z) b7 fun z hz _ => hz) fun z hz => (hT6.bo z hz).2, ?_, by rw [List.length_append]; omega⟩
            · rcases s7 with e | e
              · exact hvi z (e ▸ hz)
              · rw [e] at hz; injection hz with hz; omega
            · rw [hp2, heq, List.append_assoc]
    · skip
      by_cases hlt : i < l.length
      · have h60 : ¬ i < 60 := fun h => hgo ⟨hlt, h⟩
        refine walk (both g1 (both g6 (both g7 (both g8 (both g9 (both hlt h60)))))) ?_
        refine Cl.wfK ((dump_ok hT.q).mono fun w H3 hn3 ⟨c, hF3, hlt3, hR3⟩ hw3 => ?_)
        have hmany := hT.q.many
        have hfit := hT.q.fits
        obtain ⟨wa, wc, wx, rfl, _⟩ := hF3.own.form
        have hT3 := hT.kept hF3.keep
        refine walk g7 ?_
        have hvl : ∀ z, H'.next ≤ z → slBlock (AV.slice voa lo.length voc vox) ≠ some z := fun z hz e => by have := (hT.bo z e).1.1; omega
        have hdl : List0 partS H3 (fun b => b < H3.next ∧ slBlock (AV.slice voa lo.length voc vox) ≠ some b) (.slice wa ql.length wc wx) ql := (hF3.own.list0 (S := partS) hR3 (by omega)).mono fun z hz => by
          rcases hz with (hz | hz) | hz
          · exact ⟨by have := hz.1.1; have := hF3.keep.next; omega, hz.2.2⟩
          · exact ⟨hz.2.1, hvl z hz.1⟩
          · exact ⟨hlt3 z hz, hvl z (hF3.new z hz)⟩
        obtain ⟨co3, o3, o3R⟩ := hT3.o
        obtain ⟨ci3, i3, i3R⟩ := hT3.i
        have hBi3 := hBi.upd hF3.keep fun _ _ h => h
        have hBo3 := hBo.upd hF3.keep fun _ _ h => h
        obtain rfl := rows_bytes_eq o3R
        obtain rfl := rows_bytes_eq i3R
        have hflat := flatB_total ql
        have hli : li.length = lo.length + (flatB ql).length := by rw [heq, List.length_append]
        refine Wq.loop (fun m e Hy => ∃ (j : Nat) (v : AV), j ≤ ql.length ∧ m = ql.length - j ∧ e 7 = .slice via li.length vic vix ∧ e 8 = v ∧ e 16 = .slice wa ql.length wc wx ∧ e 17 = .int .i64 j ∧ Upd (fun z => slBlock (AV.slice voa lo.length voc vox) = some z) H3 Hy ∧
          OwnG Hy 5 1 v (lo ++ flatB (ql.take j)).length (cellsOfBytes (lo ++ flatB (ql.take j))) ∧ (∀ z, slBlock v = some z → slBlock (AV.slice voa lo.length voc vox) = some z ∨ H3.next ≤ z) ∧ Bare Hy v (lo ++ flatB (ql.take j))) ql.length ?_ ?_
        · exact ⟨0, .slice voa lo.length voc vox, by omega, by omega, by simp [g7], by simp [g8], by simp, by simp, Upd.rfl, by simpa [flatB] using o3, fun z hz => .inl hz, by simpa [flatB] using hBo3⟩
        · rintro m e Hy ⟨j, v, hj, rfl, g7, g8, g16, g17, hUy, hOy, hvy, hBy⟩
          by_cases hjl : j < ql.length
          · obtain ⟨y, hy⟩ := get_lt hjl
            have hdl' := hdl.upd hUy fun z hz => hz.2
            obtain ⟨b1, o1, d1, t1, w1, mk1, cs1, rfl, _, hb1, hg1, hf1, hd1, hr1⟩ := hdl'.at hy
            obtain ⟨vb, vl, rfl, ⟨vb', e1, hS, hbo, hbm⟩, _⟩ := part_open hr1
            injection e1 with e1 _; subst e1
            obtain ⟨yba, ybc, ybx, rfl, _⟩ := hS.form
            have r0 : d1[o1 + j * 2]? = some (.slice yba y.b.length ybc ybx) := by have := get_of_take (j := 0) hd1 (by decide); simpa using this
            simp only [partS_s] at hf1
            have htk : flatB (ql.take (j + 1)) = flatB (ql.take j) ++ y.b := by rw [List.take_add_one, hy, flatB_app]; simp [flatB]
            have htl : (lo ++ flatB (ql.take (j + 1))).length ≤ li.length := by
              have h1 : flatB ql = flatB (ql.take (j + 1)) ++ flatB (ql.drop (j + 1)) := by rw [← flatB_app, List.take_append_drop]
              rw [heq, h1]; simp
            rw [htk, ← List.append_assoc, List.length_append] at htl
            obtain ⟨va, vc, vx, rfl, _⟩ := hOy.form
            refine walk (both g7 (both g8 (both g16 (both g17 (both hjl (both hg1 r0)))))) ?_
            refine Oq.appendZ (own := hOy) (new := cellsOfBytes y.b) (m := y.b.length) (by simp (disch := omega) [g7, -getElem?_pos, wrapI64, tdivN, tmodN, ipos, ineg, dpos, dneg, slc_l, slc_h, slc_lh, slc_hm, slc_lhm, slc_0, slcR_some, slcR_none, cutS_ok, cutA_ok, byteAt_ok]; first | done | (repeat' (first | rfl | apply And.intro))) ⟨_, rfl, by simp; first | done | (repeat' (first | rfl | apply And.intro))⟩ rfl (by kernel_rfl) (by kernel_rfl) (hS.src') (by simp) (cellsOfBytes_one _) (by omega) (by omega) fun w7 H7 o7 b7 s7 l7 => ?_
            refine walk g17 ?_
            rw [bytes_app, List.append_assoc, ← htk] at o7
            refine Roundq.normal (ql.length - (j + 1)) (by omega) ⟨j + 1, w7, by omega, rfl, by simp [g7], by simp, by simp [g16], by simp, hUy.butOne b7 fun z hz hzl => (hvy z hz).resolve_right (by omega), ?_, fun z hz => ?_, ?_⟩
            · rw [htk, ← List.append_assoc, List.length_append (bs := y.b), List.append_assoc, ← htk]; exact o7
            · rcases s7 with e | e
              · exact hvy z (e ▸ hz)
              · rw [e] at hz; injection hz with hz; exact .inr (by have := hUy.next; omega)
            · rw [htk, ← List.append_assoc]; exact hBy.app rfl l7.2
          · have hjq : ql.take j = ql := List.take_of_length_le (by omega)
            rw [hjq, ← heq] at hOy hBy
            obtain ⟨va, vc, vx, rfl, _⟩ := hOy.form
            have cv1 : convR Try.prog 25 9 (some (.slice via li.length vic vix)) Hy = some (.str li, Hy) := conv_or (by simp) (by simp) (i3.sl.upd hUy fun z hz _ => (hT3.bi z hz).2) (hBi3.upd hUy fun z hz => (hT3.bi z hz).2)
            have cv2 : convR Try.prog 25 9 (some (.slice va li.length vc vx)) Hy = some (.str li, Hy) := conv_or (by simp) (by simp) hOy.sl hBy
            refine walk (both g7 (both g8 (both g16 (both g17 (both hjl (both cv1 cv2)))))) ?_
            refine Cl.prim (v := .bool true) (H' := Hy) rfl rfl ?_
            refine walk g7 ?_
            exact rfl
      · refine walk (both g1 (both g6 (both g7 (both g8 (both g9 hlt))))) ?_
        refine Cl.wfK ((dump_ok hT.q).mono fun w H3 hn3 ⟨c, hF3, hlt3, hR3⟩ hw3 => ?_)
        have hmany := hT.q.many
        have hfit := hT.q.fits
        obtain ⟨wa, wc, wx, rfl, _⟩ := hF3.own.form
        have hT3 := hT.kept hF3.keep
        refine walk g7 ?_
        have hvl : ∀ z, H'.next ≤ z → slBlock (AV.slice voa lo.length voc vox) ≠ some z := fun z hz e => by have := (hT.bo z e).1.1; omega
        have hdl : List0 partS H3 (fun b => b < H3.next ∧ slBlock (AV.slice voa lo.length voc vox) ≠ some b) (.slice wa ql.length wc wx) ql := (hF3.own.list0 (S := partS) hR3 (by omega)).mono fun z hz => by
          rcases hz with (hz | hz) | hz
          · exact ⟨by have := hz.1.1; have := hF3.keep.next; omega, hz.2.2⟩
          · exact ⟨hz.2.1, hvl z hz.1⟩
          · exact ⟨hlt3 z hz, hvl z (hF3.new z hz)⟩
        obtain ⟨co3, o3, o3R⟩ := hT3.o
        obtain ⟨ci3, i3, i3R⟩ := hT3.i
        have hBi3 := hBi.upd hF3.keep fun _ _ h => h
        have hBo3 := hBo.upd hF3.keep fun _ _ h => h
        obtain rfl := rows_bytes_eq o3R
        obtain rfl := rows_bytes_eq i3R
        have hflat := flatB_total ql
        have hli : li.length = lo.length + (flatB ql).length := by rw [heq, List.length_append]
        refine Wq.loop (fun m e Hy => ∃ (j : Nat) (v : AV), j ≤ ql.length ∧ m = ql.length - j ∧ e 7 = .slice via li.length vic vix ∧ e 8 = v ∧ e 16 = .slice wa ql.length wc wx ∧ e 17 = .int .i64 j ∧ Upd (fun z => slBlock (AV.slice voa lo.length voc vox) = some z) H3 Hy ∧
          OwnG Hy 5 1 v (lo ++ flatB (ql.take j)).length (cellsOfBytes (lo ++ flatB (ql.take j))) ∧ (∀ z, slBlock v = some z → slBlock (AV.slice voa lo.length voc vox) = some z ∨ H3.next ≤ z) ∧ Bare Hy v (lo ++ flatB (ql.take j))) ql.length ?_ ?_
        · exact ⟨0, .slice voa lo.length voc vox, by omega, by omega, by simp [g7], by simp [g8], by simp, by simp, Upd.rfl, by simpa [flatB] using o3, fun z hz => .inl hz, by simpa [flatB] using hBo3⟩
        · rintro m e Hy ⟨j, v, hj, rfl, g7, g8, g16, g17, hUy, hOy, hvy, hBy⟩
          by_cases hjl : j < ql.length
          · obtain ⟨y, hy⟩ := get_lt hjl
            have hdl' := hdl.upd hUy fun z hz => hz.2
            obtain ⟨b1, o1, d1, t1, w1, mk1, cs1, rfl, _, hb1, hg1, hf1, hd1, hr1⟩ := hdl'.at hy
            obtain ⟨vb, vl, rfl, ⟨vb', e1, hS, hbo, hbm⟩, _⟩ := part_open hr1
            injection e1 with e1 _; subst e1
            obtain ⟨yba, ybc, ybx, rfl, _⟩ := hS.form
            have r0 : d1[o1 + j * 2]? = some (.slice yba y.b.length ybc ybx) := by have := get_of_take (j := 0) hd1 (by decide); simpa using this
            simp only [partS_s] at hf1
            have htk : flatB (ql.take (j + 1)) = flatB (ql.take j) ++ y.b := by rw [List.take_add_one, hy, flatB_app]; simp [flatB]
            have htl : (lo ++ flatB (ql.take (j + 1))).length ≤ li.length := by
              have h1 : flatB ql = flatB (ql.take (j + 1)) ++ flatB (ql.drop (j + 1)) := by rw [← flatB_app, List.take_append_drop]
              rw [heq, h1]; simp
            rw [htk, ← List.append_assoc, List.length_append] at htl
            obtain ⟨va, vc, vx, rfl, _⟩ := hOy.form
            refine walk (both g7 (both g8 (both g16 (both g17 (both hjl (both hg1 r0)))))) ?_
            refine Oq.appendZ (own := hOy) (new := cellsOfBytes y.b) (m := y.b.length) (by simp (disch := omega) [g7, -getElem?_pos, wrapI64, tdivN, tmodN, ipos, ineg, dpos, dneg, slc_l, slc_h, slc_lh, slc_hm, slc_lhm, slc_0, slcR_some, slcR_none, cutS_ok, cutA_ok, byteAt_ok]; first | done | (repeat' (first | rfl | apply And.intro))) ⟨_, rfl, by simp; first | done | (repeat' (first | rfl | apply And.intro))⟩ rfl (by kernel_rfl) (by kernel_rfl) (hS.src') (by simp) (cellsOfBytes_one _) (by omega) (by omega) fun w7 H7 o7 b7 s7 l7 => ?_
            refine walk g17 ?_
            rw [bytes_app, List.append_assoc, ← htk] at o7
            refine Roundq.normal (ql.length - (j + 1)) (by omega) ⟨j + 1, w7, by omega, rfl, by simp [g7], by simp, by simp [g16], by simp, hUy.butOne b7 fun z hz hzl => (hvy z hz).resolve_right (by omega), ?_, fun z hz => ?_, ?_⟩
            · rw [htk, ← List.append_assoc, List.length_append (bs := y.b), List.append_assoc, ← htk]; exact o7
            · rcases s7 with e | e
              · exact hvy z (e ▸ hz)
              · rw [e] at hz; injection hz with hz; exact .inr (by have := hUy.next; omega)
            · rw [htk, ← List.append_assoc]; exact hBy.app rfl l7.2
          · have hjq : ql.take j = ql := List.take_of_length_le (by omega)
            rw [hjq, ← heq] at hOy hBy
            obtain ⟨va, vc, vx, rfl, _⟩ := hOy.form
            have cv1 : convR Try.prog 25 9 (some (.slice via li.length vic vix)) Hy = some (.str li, Hy) := conv_or (by simp) (by simp) (i3.sl.upd hUy fun z hz _ => (hT3.bi z hz).2) (hBi3.upd hUy fun z hz => (hT3.bi z hz).2)
            have cv2 : convR Try.prog 25 9 (some (.slice va li.length vc vx)) Hy = some (.str li, Hy) := conv_or (by simp) (by simp) hOy.sl hBy
            refine walk (both g7 (both g8 (both g16 (both g17 (both hjl (both cv1 cv2)))))) ?_
            refine Cl.prim (v := .bool true) (H' := Hy) rfl rfl ?_
            refine walk g7 ?_
            exact rfl
end Go.Abs

/- The seat's own facts for its rows. -/
namespace Go.Proofs.Ytbklaolbfpiamaa
open Go.ChangeShapes Go.WideShapes Go.ChangeAt Go.RowKit Go.Abs
set_option linter.unusedVariables false
set_option maxRecDepth 100000

theorem own : ownKnob Try.prog.godebug = none := by kernel_rfl
theorem laidOut : laidOutB Try.prog = true := by kernel_rfl
theorem mixed : Try.prog.follows .mixedOrders = true := by kernel_rfl
theorem plainN : plainNames Try.prog = true := by kernel_rfl
theorem run12 : ((acall Try.prog noPrims 40 12 [] (Heap.start Try.prog.globals.size)).map fun r => sameAV r.1 (.bool true)) = some true := by kernel_rfl
theorem runs12 : ∃ n H', acall Try.prog noPrims n 12 [] (Heap.start Try.prog.globals.size) = some (.bool true, H') := runs_of run12
theorem primsOk : PrimsOk Try.prog pr10 := by
  refine closedPrims_ok mixed plainN fun p hp => ?_
  simp at hp
  subst hp
  exact ⟨rfl, runs12⟩
theorem primsRl : PrimsRl pr10 := closedPrims_rl _
end Go.Proofs.Ytbklaolbfpiamaa

/- QueueOnce: the row. -/
namespace Go.Proofs.Ytbklaolbfpiamaa
open Go.ChangeShapes Go.WideShapes Go.ChangeAt Go.RowKit Go.Abs
set_option linter.unusedVariables false
set_option maxRecDepth 100000

theorem queueOnceMain (H : Heap) (xs : List AV) (hG : Try.prog.globals.size ≤ H.next) (hw : Wf H) (h : PicAll Try.prog H 4 [5, 22] xs) : CallsA Try.prog pr10 4 xs H fun v _ => v = .bool true := by
  obtain ⟨a0, r0, rfl, h0, a1, r1, rfl, h1, hend⟩ := h
  obtain rfl : r1 = [] := hend
  refine Cl.callsA primsRl hw ?_
  obtain ⟨z0, rfl, w0, w0'⟩ := picV_u8 Try.underlying5 h0
  obtain ⟨l, hl⟩ := qacts_of (picV_slice Try.underlying22 h1)
  exact queueOnce_main _ _ l H w0 w0' hl

theorem queueOnceLifted (os : Os) (started : os.Started) (H : Type) (enc : TypeId × Value → H) :
    ReturnsInHanded {} Try.checked os 4 .any (Rows.queueOnceSpec.pre6 enc Try.prog Try.f4 Rows.queueOnceRow.domain false) (Rows.queueOnceSpec.post enc Try.prog Try.f4 false true false false) := by
  refine returnsInHanded_of_change (C := Try.checked) own started (by kernel_rfl) Try.func4
    (ChangeSpec.witness6 (enc := enc) (C := Try.checked) false ⟨#[], #[.int .u8 0, .slice none 0 0], []⟩ 8 (by kernel_rfl) (by kernel_rfl) (by kernel_rfl) (by kernel_rfl)) ?_
  intro W base args ds gs before hval hW hcnd _
  have ep : Try.f4.params.toList = [5, 22] := by kernel_rfl
  refine law_post laidOut rfl (fun ds h => ?_) (tb := 4) (by kernel_rfl) Try.underlying4 ?_ hW (fun p hA => ?_)
  · rw [ep] at h
    match ds, h with
    | [a0, a1], _ => rfl
  · rw [ep]
    intro t ht
    simp at ht
    rcases ht with rfl | rfl <;> exact ⟨by kernel_rfl, of_decide_eq_true (by kernel_rfl)⟩
  · refine law_calls primsOk mixed plainN Try.func4 rfl (n := 4) (base := base) (ts := Try.f4.params.toList) ?_ ?_ ?_ hA
    · rw [ep]
      intro t ht
      simp at ht
      rcases ht with rfl | rfl <;> kernel_rfl
    · rw [ep]
      exact queueOnceMain
    · intro j t v h1 h2
      exact hval j t v (by simpa using h1) (by simpa using h2)

theorem queueOnce : Rows.QueueOnceSaid :=
  OpenClaim.holds_of_wide 4 Try.f4 rfl rfl rfl rfl rfl rfl rfl ⟨rfl, rfl, rfl, rfl, rfl⟩ rfl rfl rfl rfl rfl (by kernel_rfl) Try.func4 (by kernel_rfl)
    (of_decide_eq_true (by kernel_rfl)) (by unfold Func.isWrapper; first | (rw [if_pos (by decide +kernel)]; kernel_rfl) | (rw [if_neg (by decide +kernel)]; exact ⟨rfl, rfl⟩))
    (fun os started H enc _ => queueOnceLifted os started H enc)
-- #print axioms queueOnce
end Go.Proofs.Ytbklaolbfpiamaa
