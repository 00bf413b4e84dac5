/- Texts on this program, joined. -/
import Derived.Test.YtmggofidibhabaaOwn09
import Derived.Test.YtmggofidibhabaaKit10
import Derived.Test.YtmggofidibhabaaKit04
import Derived.Test.YtmggofidibhabaaRows
import Derived.WalkKit
import Derived.ProofKit
import Derived.OpenShut
import Derived.ShutString
import Derived.ChangeOld
import Derived.Below

/- Chapter 11: the queue beside two lists that grow. -/
namespace Go.Abs
open Go.Proofs
set_option maxRecDepth 100000
set_option linter.unusedVariables false
set_option linter.unusedSimpArgs false

theorem QueueR.mono {H : Heap} {p : Nat} {slv : AV} {ok ok' : Nat → Prop} {ql : List Part} {most : Int} (h : QueueR H p slv ok ql most) (h1 : ∀ z, ok z → ok' z) (h2 : ∀ z, ok' z → okQ H p slv z) : QueueR H p slv ok' ql most := by
  obtain ⟨c, q1, q2⟩ := h.own
  exact ⟨h.q, ⟨c, q1, q2.mono h1⟩, h2, h.apart, h.ne, h.many, h.fits, h.lt, h.few⟩

def okT (K : Nat) (H : Heap) (p : Nat) (slv vi vo : AV) (z : Nat) : Prop := okQ H p slv z ∧ slBlock vi ≠ some z ∧ slBlock vo ≠ some z ∧ K ≤ z
theorem From.not {H : Heap} {s s' : AV} (h : From H s s') {z : Nat} (hz : z < H.next) (hs : slBlock s ≠ some z) : slBlock s' ≠ some z := fun e => by
  rcases h z e with e | e
  · exact hs e
  · omega
theorem okT.up {K : Nat} {H H' : Heap} {p : Nat} {slv slv' vi vi' vo vo' : AV} (hn : H.next ≤ H'.next) (hf : From H slv slv') (hi : From H vi vi') (ho : From H vo vo') (z : Nat) (h : okT K H p slv vi vo z) : okT K H' p slv' vi' vo' z :=
  ⟨okQ.up hn hf z h.1, hi.not h.1.1 h.2.1, ho.not h.1.1 h.2.2.1, h.2.2.2⟩

structure Four {α : Type} (K : Nat) (S : Shape α) (el : TypeId) (H : Heap) (p : Nat) (slv vi vo : AV) (ql : List Part) (li lo : List α) (most : Int) : Prop where
  q : QueueR H p slv (okT K H p slv vi vo) ql most
  lt : p < H.next
  i : ∃ c, OwnG H el S.s vi li.length c ∧ Rows S H (okT K H p slv vi vo) c li
  o : ∃ c, OwnG H el S.s vo lo.length c ∧ Rows S H (okT K H p slv vi vo) c lo
  bi : ∀ z, slBlock vi = some z → okQ H p slv z ∧ slBlock vo ≠ some z
  bo : ∀ z, slBlock vo = some z → okQ H p slv z ∧ slBlock vi ≠ some z
section
variable {α : Type} {K : Nat} {S : Shape α} {el : TypeId} {H H' : Heap} {p : Nat} {slv slv' vi vo v' : AV} {ql ql' : List Part} {li lo ls : List α} {most : Int}
theorem Four.queue {ok : Nat → Prop} (h : Four K S el H p slv vi vo ql li lo most) (u : Upd (fun b => b = p ∨ slBlock slv = some b) H H') (hf : From H slv slv') (hq : QueueR H' p slv' ok ql' most) (h1 : ∀ z, ok z → slBlock vi ≠ some z ∧ slBlock vo ≠ some z ∧ K ≤ z) : Four K S el H' p slv' vi vo ql' li lo most := by
  have hn := u.next
  obtain ⟨ci, i1, i2⟩ := h.i
  obtain ⟨co, o1, o2⟩ := h.o
  have hnot : ∀ z, okT K H p slv vi vo z → ¬ (z = p ∨ slBlock slv = some z) := fun z hz => okQ.not z hz.1
  have hup := okT.up (K := K) (p := p) (vi := vi) (vo := vo) hn hf From.rfl From.rfl
  exact ⟨hq.mono (fun z hz => ⟨hq.okd z hz, h1 z hz⟩) fun z hz => hz.1, by have := h.lt; omega, ⟨ci, i1.upd u fun z hz => okQ.not z (h.bi z hz).1, (i2.upd u hnot).mono hup⟩, ⟨co, o1.upd u fun z hz => okQ.not z (h.bo z hz).1, (o2.upd u hnot).mono hup⟩,
    fun z hz => ⟨okQ.up hn hf z (h.bi z hz).1, (h.bi z hz).2⟩, fun z hz => ⟨okQ.up hn hf z (h.bo z hz).1, (h.bo z hz).2⟩⟩
theorem Four.kept (h : Four K S el H p slv vi vo ql li lo most) (k : Keep H H') : Four K S el H' p slv vi vo ql li lo most :=
  h.queue (Upd.of k) From.rfl (h.q.kept k h.lt) fun z hz => hz.2
theorem Four.swap (h : Four K S el H p slv vi vo ql li lo most) : Four K S el H p slv vo vi ql lo li most := by
  obtain ⟨ci, i1, i2⟩ := h.i
  obtain ⟨co, o1, o2⟩ := h.o
  have hs : ∀ z, okT K H p slv vi vo z → okT K H p slv vo vi z := fun z hz => ⟨hz.1, hz.2.2.1, hz.2.1, hz.2.2.2⟩
  exact ⟨h.q.mono hs fun z hz => hz.1, h.lt, ⟨co, o1, o2.mono hs⟩, ⟨ci, i1, i2.mono hs⟩, h.bo, h.bi⟩
/-- One of the lists has grown. -/
theorem Four.app {c d : List AV} (h : Four K S el H p slv vi vo ql li lo most) (hc : Rows S H (okT K H p slv vi vo) c li) (hd : Rows S H (okT K H p slv vi vo) d ls) (o : OwnG H' el S.s v' (li ++ ls).length (c ++ d)) (b : ButOne (slBlock vi) H H')
    (hs : slBlock v' = slBlock vi ∨ slBlock v' = some H.next) (hl : ∀ z, slBlock v' = some z → slBlock vi = some z ∨ z < H'.next) : Four K S el H' p slv v' vo ql (li ++ ls) lo most := by
  have hn := b.1
  have u : Upd (fun z => slBlock vi = some z) H H' := Upd.rfl.butOne b fun z hz _ => hz
  have hf : From H vi v' := From.of (hs.imp id fun e => ⟨_, e, Nat.le_refl _⟩)
  obtain ⟨co, o1, o2⟩ := h.o
  have hnot : ∀ z, okT K H p slv vi vo z → ¬ slBlock vi = some z := fun z hz => hz.2.1
  have hup := okT.up (K := K) (p := p) (slv := slv) (vo := vo) hn From.rfl hf From.rfl
  have hp : ¬ slBlock vi = some p := fun e => (h.bi p e).1.2.1 rfl
  have hsl : ∀ z, slBlock slv = some z → ¬ slBlock vi = some z := fun z hz e => (h.bi z e).1.2.2 hz
  have hq := h.q.keep u hp (fun ⟨z, e1, e2⟩ => hsl z e1 e2) hnot h.lt
  refine ⟨hq.mono hup fun z hz => hz.1, by have := h.lt; omega, ⟨_, o, ((hc.upd u hnot).mono hup).app ((hd.upd u hnot).mono hup)⟩, ⟨co, o1.upd u fun z hz => (h.bo z hz).2, (o2.upd u hnot).mono hup⟩, fun z hz => ?_, fun z hz => ⟨okQ.up hn From.rfl z (h.bo z hz).1, hf.not (h.bo z hz).1.1 (h.bo z hz).2⟩⟩
  rcases hf z hz with e | e
  · exact ⟨okQ.up hn From.rfl z (h.bi z e).1, (h.bi z e).2⟩
  · have hz' : z < H'.next := by
      rcases hl z hz with e' | e'
      · have := (h.bi z e').1.1; omega
      · exact e'
    have := h.lt
    exact ⟨⟨hz', by omega, fun e' => by have := h.q.lt z e'; omega⟩, fun e' => by have := (h.bo z e').1.1; omega⟩
/-- A block that is none of theirs is written. -/
theorem Four.other {z0 : Nat} (h : Four K S el H p slv vi vo ql li lo most) (u : Upd (fun z => z = z0) H H') (h0 : z0 < K) (hp : z0 ≠ p) (hs : slBlock slv ≠ some z0) (hi : slBlock vi ≠ some z0) (ho : slBlock vo ≠ some z0) : Four K S el H' p slv vi vo ql li lo most := by
  have hn := u.next
  obtain ⟨ci, i1, i2⟩ := h.i
  obtain ⟨co, o1, o2⟩ := h.o
  have hnot : ∀ z, okT K H p slv vi vo z → ¬ (z = z0) := fun z hz e => by have := hz.2.2.2; omega
  have hup := okT.up (K := K) (p := p) (slv := slv) (vi := vi) (vo := vo) hn From.rfl From.rfl From.rfl
  exact ⟨(h.q.keep u (fun e => hp e.symm) (fun ⟨z, e1, e2⟩ => hs (by rw [e1, e2])) hnot h.lt).mono hup fun z hz => hz.1, by have := h.lt; omega, ⟨ci, i1.upd u fun z hz e => hi (by rw [hz, e]), (i2.upd u hnot).mono hup⟩, ⟨co, o1.upd u fun z hz e => ho (by rw [hz, e]), (o2.upd u hnot).mono hup⟩,
    fun z hz => ⟨okQ.up hn From.rfl z (h.bi z hz).1, (h.bi z hz).2⟩, fun z hz => ⟨okQ.up hn From.rfl z (h.bo z hz).1, (h.bo z hz).2⟩⟩
/-- A new block is none of theirs. -/
theorem Four.new (h : Four K S el H p slv vi vo ql li lo most) (hK : K ≤ H.next) {z : Nat} (hz : H.next ≤ z) (hl : z < H'.next) : okT K H' p slv vi vo z := by
  have := h.lt
  exact ⟨⟨hl, by omega, fun e => by have := h.q.lt z e; omega⟩, fun e => by have := (h.bi z e).1.1; omega, fun e => by have := (h.bo z e).1.1; omega, by omega⟩
end

theorem allP_lastB (B : List UInt8) : ∀ l, allP (lastB l B) = allP l
  | [] => rfl
  | [x] => rfl
  | x :: y :: r => by
    have := allP_lastB B (y :: r)
    simp only [lastB, allP, List.flatMap_cons] at this ⊢
    rw [this]
theorem allP_put {most : Int} {ql : List Part} {bs : List UInt8} {ls : List Pass} : ((putQ most ql bs ls).2.2 = 0 ∧ allP (putQ most ql bs ls).1 = allP ql ++ ls) ∨ ((putQ most ql bs ls).2.2 ≠ 0 ∧ (putQ most ql bs ls).1 = ql) := by
  simp only [putQ]
  split
  · exact .inr ⟨by simp, rfl⟩
  · split
    · exact .inr ⟨by simp, rfl⟩
    · refine .inl ⟨rfl, ?_⟩
      rw [allP_lastB]
      by_cases h : ls ≠ [] ∨ ql = []
      · rw [if_pos h]; simp [allP]
      · rw [if_neg h]
        have : ls = [] := by
          cases ls with
          | nil => rfl
          | cons a b => exact absurd (.inl (by simp)) h
        rw [this, List.append_nil]
theorem allP_takeQ : ∀ (n : Nat) (l : List Part), allP (takeQ n l).2 = allP l
  | _, [] => rfl
  | n, x :: r => by
    by_cases h : n = 0 ∨ x.l ≠ []
    · simp only [takeQ, if_pos h]
    · have hx : x.l = [] := by
        cases hl : x.l with
        | nil => rfl
        | cons a b => exact absurd (.inr (by rw [hl]; simp)) h
      by_cases h2 : x.b.length ≤ n
      · have ih := allP_takeQ (n - x.b.length) r
        have e : takeQ n (x :: r) = (x.b ++ (takeQ (n - x.b.length) r).1, (takeQ (n - x.b.length) r).2) := by
          conv => lhs; unfold takeQ
          rw [if_neg h, if_pos h2]
        rw [e]
        show allP (takeQ (n - x.b.length) r).2 = allP (x :: r)
        rw [ih]
        simp [allP, hx]
      · have e : takeQ n (x :: r) = (x.b.take n, ⟨x.b.drop n, x.l⟩ :: r) := by
          conv => lhs; unfold takeQ
          rw [if_neg h, if_neg h2]
        rw [e]
        simp [allP]

def flatB (l : List Part) : List UInt8 := l.flatMap (·.b)
theorem flatB_cons (x : Part) (l : List Part) : flatB (x :: l) = x.b ++ flatB l := rfl
theorem flatB_total (l : List Part) : (flatB l).length = total l := by
  induction l with
  | nil => rfl
  | cons x l ih => rw [flatB_cons, total_cons, List.length_append, ih]
theorem flatB_takeQ : ∀ (n : Nat) (l : List Part), (takeQ n l).1 ++ flatB (takeQ n l).2 = flatB l
  | _, [] => rfl
  | n, x :: r => by
    by_cases h : n = 0 ∨ x.l ≠ []
    · simp only [takeQ, if_pos h, List.nil_append]
    · by_cases h2 : x.b.length ≤ n
      · have ih := flatB_takeQ (n - x.b.length) r
        have e : takeQ n (x :: r) = (x.b ++ (takeQ (n - x.b.length) r).1, (takeQ (n - x.b.length) r).2) := by
          conv => lhs; unfold takeQ
          rw [if_neg h, if_pos h2]
        rw [e]
        show (x.b ++ (takeQ (n - x.b.length) r).1) ++ flatB (takeQ (n - x.b.length) r).2 = x.b ++ flatB r
        rw [List.append_assoc, ih]
      · have e : takeQ n (x :: r) = (x.b.take n, ⟨x.b.drop n, x.l⟩ :: r) := by
          conv => lhs; unfold takeQ
          rw [if_neg h, if_neg h2]
        rw [e]
        show x.b.take n ++ (x.b.drop n ++ flatB r) = x.b ++ flatB r
        rw [← List.append_assoc, List.take_append_drop]
theorem flatB_app (a b : List Part) : flatB (a ++ b) = flatB a ++ flatB b := by simp [flatB]
theorem flatB_lastB (B : List UInt8) : ∀ l, l ≠ [] → flatB (lastB l B) = flatB l ++ B
  | [], h => absurd rfl h
  | [x], _ => by simp [lastB, flatB]
  | x :: y :: r, _ => by
    have := flatB_lastB B (y :: r) (by simp)
    simp only [lastB, flatB_cons, List.append_assoc] at this ⊢
    rw [this]
theorem flatB_put {most : Int} {ql : List Part} {bs : List UInt8} {ls : List Pass} (hm : (total ql : Int) ≤ most) : 0 ≤ (putQ most ql bs ls).2.1 ∧ (putQ most ql bs ls).2.1 ≤ bs.length ∧ flatB (putQ most ql bs ls).1 = flatB ql ++ bs.take (putQ most ql bs ls).2.1.toNat := by
  simp only [putQ]
  split
  · exact ⟨Int.le_refl _, by simp, by simp⟩
  · split
    · exact ⟨Int.le_refl _, by simp, by simp⟩
    · refine ⟨by simp only []; omega, by simp only []; omega, ?_⟩
      simp only []
      rw [flatB_lastB]
      · have e : bs.take (most - total ql).toNat = bs.take (min (bs.length : Int) (most - total ql)).toNat := by
          rcases Int.le_total (bs.length : Int) (most - total ql) with h' | h'
          · rw [List.take_of_length_le (by omega), List.take_of_length_le (by omega)]
          · congr 1; omega
        rw [← e]
        congr 1
        split
        · rw [flatB_app]; simp [flatB]
        · rfl
      · split
        · simp
        · rename_i h
          intro e
          exact h (.inr e)
theorem take_any {H : Heap} {p : Nat} {slv : AV} {ok : Nat → Prop} {ql : List Part} {most : Int} (h : QueueR H p slv ok ql most) (n m : Int) (hn2 : n ≤ 9223372036854775807) (hm1 : -9223372036854775808 ≤ m) (hm2 : m ≤ 9223372036854775807) :
    Cl Try.prog pr11 19 [.ptr (some (p, 0)), .int .i64 n, .int .i64 m] H fun w H' => ∃ slv' wb wp wd ql' B A1 A2, w = .tuple [wb, wp, wd] ∧ Upd (fun b => b = p ∨ slBlock slv = some b) H H' ∧ slBlock slv' = slBlock slv ∧ QueueR H' p slv' ok ql' most ∧
      bytesS.R H' (fun b => H.next ≤ b ∧ b < H'.next) [wb] B ∧ List0 passS H' ok wp A1 ∧ List0 passS H' ok wd A2 ∧ allP ql = A1 ++ A2 ++ allP ql' ∧ flatB ql = B ++ flatB ql' ∧ A1.length ≤ 4 ∧ A2.length ≤ 4 ∧ (1 ≤ n → ql ≠ [] → B ≠ []) := by
  by_cases hno : n < 1 ∨ ql = []
  · refine (take_no h n m hno).mono fun w H' _ ⟨e1, e2⟩ => ?_
    subst e1; subst e2
    exact ⟨slv, _, _, _, ql, [], [], [], rfl, Upd.rfl, rfl, h, ⟨_, rfl, Sl.nil, by simp [slBlock], by simp⟩, List0.nil, List0.nil, rfl, rfl, by simp, by simp, fun h1 h2 => by rcases hno with h' | h'; (· omega); (· exact absurd h' h2)⟩
  · cases ql with
    | nil => exact absurd (.inr rfl) hno
    | cons x r =>
      have hn : 1 ≤ n := by rcases Int.lt_or_le n 1 with h' | h'; (· exact absurd (.inl h') hno); exact h'
      have hx := h.few x (by simp)
      refine (take_ok h n m hn hn2 hm1 hm2).mono fun w H' _ ⟨slv', wb, wp, wd, e, q1, q2, q3, q4, q5, q6⟩ => ⟨slv', wb, wp, wd, _, _, _, _, e, q1, q2, q3, q4, q5, q6, ?_, ?_, ?_, ?_, fun _ _ => takeQ_ne (by omega) (h.ne x (by simp))⟩
      · rw [List.take_append_drop, allP_takeQ]; simp [allP]
      · rw [flatB_takeQ]; rfl
      · simp; omega
      · simp; omega
end Go.Abs

/- Chapter 11: a store with two sockets, walked. -/
namespace Go.Abs
open Go.Proofs
set_option maxRecDepth 100000
set_option linter.unusedVariables false
set_option linter.unusedSimpArgs false

theorem new_raw (most : Int) (h : 1 ≤ most ∧ most ≤ 4096) (H : Heap) : Cl Try.prog pr11 11 [.int .i64 most] H fun v H' => v = .ptr (some (H.next, 0)) ∧ H' = H.push (.cells [.slice none 0 0 none, .int .i64 most, .int .i64 0] 68 true false) := by
  have h1 : ¬ most < 1 := by omega
  have h2 : ¬ 4096 < most := by omega
  refine Cl.enter Try.func11 rfl rfl Try.ntmps11 (by simp) ?_
  refine walk (both h1 h2) ?_
  exact ⟨rfl, rfl⟩
def sockV (q : Nat) (id : Int) (peer : Option (Nat × Nat)) (fa : Bool) : AObj := .cells [.ptr (some (q, 0)), .int .i64 id, .int .i64 2, .ptr peer, .int .i64 0, .int .i64 0, .slice none 0 0 none, .bool false, .bool fa] 51 true false
def storeV (pm : Nat) (next room : Int) : AObj := .cells [.map (some pm), .int .i64 next, .int .i64 room] 45 true false
/-- The memory once a socket is made. -/
def madeH (H : Heap) (ps pm : Nat) (next room : Int) (es : List (Int × AV)) : Heap :=
  (((H.push (.cells [.slice none 0 0 none, .int .i64 room, .int .i64 0] 68 true false)).push (sockV H.next next none false)).set pm (.map (imap .i64 (iset next (.ptr (some (H.next + 1, 0))) es)))).set ps (storeV pm (next + 1) room)
theorem make12_ok {H : Heap} {ps pm : Nat} {next room : Int} {es : List (Int × AV)} (hs : H.get ps = some (storeV pm next room)) (hm : H.get pm = some (.map (imap .i64 es))) (hp : ps < H.next) (hpm : pm < H.next) (hne : ps ≠ pm) (hr : 1 ≤ room ∧ room ≤ 4096) (hn : 1 ≤ next ∧ next ≤ 1000) :
    Cl Try.prog pr11 12 [.ptr (some (ps, 0)), .int .i64 2] H fun r H' => r = .ptr (some (H.next + 1, 0)) ∧ H' = madeH H ps pm next room es := by
  unfold storeV at hs
  unfold madeH sockV storeV
  refine Cl.enter Try.func12 rfl rfl Try.ntmps12 (by simp) ?_
  refine walk hs ?_
  refine Wq.regionM [(0, 0), (1, 0), (2, 0), (3, 0), (4, 0), (5, 0), (6, 0), (7, 0), (8, 2), (9, 0), (10, 0), (11, 0), (12, 0)] (by kernel_rfl) ?_
  refine mwalk hs ?_
  refine (new_raw room hr _).mono fun v H1 _ ⟨ea, eb⟩ => ?_
  subst ea; subst eb
  have hs1 : (H.push (.cells [.slice none 0 0 none, .int .i64 room, .int .i64 0] 68 true false)).get ps = some (.cells [.map (some pm), .int .i64 next, .int .i64 room] 45 true false) := by rw [Heap.get_push, if_neg (by omega)]; exact hs
  refine mwalk (both hs hs1) ?_
  have hs2 : ((H.push (.cells [.slice none 0 0 none, .int .i64 room, .int .i64 0] 68 true false)).push (.cells [.ptr (some (H.next, 0)), .int .i64 next, .int .i64 2, .ptr none, .int .i64 0, .int .i64 0, .slice none 0 0 none, .bool false, .bool false] 51 true false)).get ps = some (.cells [.map (some pm), .int .i64 next, .int .i64 room] 45 true false) := by rw [Heap.get_push, if_neg (by simp; omega)]; exact hs1
  have hm2 : ((H.push (.cells [.slice none 0 0 none, .int .i64 room, .int .i64 0] 68 true false)).push (.cells [.ptr (some (H.next, 0)), .int .i64 next, .int .i64 2, .ptr none, .int .i64 0, .int .i64 0, .slice none 0 0 none, .bool false, .bool false] 51 true false)).get pm = some (.map (imap .i64 es)) := by rw [Heap.get_push, if_neg (by simp; omega), Heap.get_push, if_neg (by omega)]; exact hm
  refine Thenq.normal ?_
  refine Wq.seq ?_
  refine Wq.regionD [0, 1, 2, 3, 4, 5, 6, 7, 8, 9] (by kernel_rfl) ?_
  refine walk (both hs2 hm2) ?_
  exact ⟨rfl, rfl⟩
section
variable {H : Heap} {ps pm : Nat} {next room : Int} {es : List (Int × AV)}
theorem made_next : (madeH H ps pm next room es).next = H.next + 2 := by simp [madeH]
theorem made_get {z : Nat} (hz : z < H.next) (h1 : z ≠ ps) (h2 : z ≠ pm) : (madeH H ps pm next room es).get z = H.get z := by
  unfold madeH
  rw [Heap.get_set_ne _ _ h1, Heap.get_set_ne _ _ h2, Heap.get_push, if_neg (by simp; omega), Heap.get_push, if_neg (by omega)]
theorem made_ps : (madeH H ps pm next room es).get ps = some (storeV pm (next + 1) room) := Heap.get_set_same _ _ _
theorem made_pm (h : ps ≠ pm) : (madeH H ps pm next room es).get pm = some (.map (imap .i64 (iset next (.ptr (some (H.next + 1, 0))) es))) := by
  unfold madeH
  rw [Heap.get_set_ne _ _ (fun e => h e.symm)]
  exact Heap.get_set_same _ _ _
theorem made_sock (h1 : ps < H.next) (h2 : pm < H.next) : (madeH H ps pm next room es).get (H.next + 1) = some (sockV H.next next none false) := by
  unfold madeH
  rw [Heap.get_set_ne _ _ (by omega), Heap.get_set_ne _ _ (by omega), Heap.get_push, if_pos (by simp)]
theorem made_q (h1 : ps < H.next) (h2 : pm < H.next) : (madeH H ps pm next room es).get H.next = some (.cells [.slice none 0 0 none, .int .i64 room, .int .i64 0] 68 true false) := by
  unfold madeH
  rw [Heap.get_set_ne _ _ (by omega), Heap.get_set_ne _ _ (by omega), Heap.get_push, if_neg (by simp), Heap.get_push, if_pos rfl]
theorem made_upd (h1 : ps < H.next) (h2 : pm < H.next) : Upd (fun z => z = ps ∨ z = pm) H (madeH H ps pm next room es) := by
  unfold madeH
  exact (((Upd.rfl.push _).push _).set _ (by simp; omega) fun _ => .inr rfl).set _ (by simp; omega) fun _ => .inl rfl
end
theorem New4_ok {room : Int} (hr : 1 ≤ room ∧ room ≤ 4096) (H : Heap) : Cl Try.prog pr11 4 [.int .i64 room] H fun r H' => ∃ ps pm : Nat, r = .ptr (some (ps, 0)) ∧ Keep H H' ∧ H'.get ps = some (storeV pm 1 room) ∧ H'.get pm = some (.map (imap .i64 [])) ∧ ps ≠ pm ∧ H.next ≤ ps ∧ H.next ≤ pm ∧ ps < H'.next ∧ pm < H'.next := by
  unfold storeV
  refine Cl.enter Try.func4 rfl rfl Try.ntmps4 (by simp) ?_
  refine walk none0 ?_
  refine (new_raw room hr _).mono fun v H1 _ ⟨ea, eb⟩ => ?_
  subst ea; subst eb
  refine walk none0 ?_
  refine ⟨H.next + 2, H.next + 1, by simp, ((Upd.rfl.push _).push _).push _, by simp (disch := omega) [ineg], ?_, by omega, by omega, by omega, by simp, by simp⟩
  simp (disch := omega) [ineg, imap]
structure SockR (H : Heap) (ps pm a b qa qb : Nat) (room : Int) (fa : Bool) : Prop where
  s : H.get ps = some (storeV pm 3 room)
  m : H.get pm = some (.map (imap .i64 [(1, .ptr (some (a, 0))), (2, .ptr (some (b, 0)))]))
  ga : H.get a = some (sockV qa 1 (some (b, 0)) fa)
  gb : H.get b = some (sockV qb 2 (some (a, 0)) false)
  lt : ps < H.next ∧ pm < H.next ∧ a < H.next ∧ b < H.next
  qlt : qb < H.next
  ne : qb ≠ ps ∧ qb ≠ pm ∧ qb ≠ a ∧ qb ≠ b ∧ a ≠ b ∧ a ≠ ps ∧ a ≠ pm
theorem SockR.upd {H H' : Heap} {ps pm a b qa qb : Nat} {room : Int} {fa : Bool} {fp : Nat → Prop} (h : SockR H ps pm a b qa qb room fa) (u : Upd fp H H') (hf : ∀ z, fp z → z = qb ∨ (z ≠ ps ∧ z ≠ pm ∧ z ≠ a ∧ z ≠ b)) : SockR H' ps pm a b qa qb room fa := by
  have hn := u.next
  obtain ⟨l1, l2, l3, l4⟩ := h.lt
  obtain ⟨n1, n2, n3, n4, n5, n6, n7⟩ := h.ne
  refine ⟨(u.keep ps l1 fun hc => ?_).trans h.s, (u.keep pm l2 fun hc => ?_).trans h.m, (u.keep a l3 fun hc => ?_).trans h.ga, (u.keep b l4 fun hc => ?_).trans h.gb, by omega, by have := h.qlt; omega, h.ne⟩
  all_goals (rcases hf _ hc with g | g <;> omega)
theorem join13_ok {H : Heap} {a b qa qb : Nat} (ga : H.get a = some (sockV qa 1 none false)) (gb : H.get b = some (sockV qb 2 none false)) (hab : a ≠ b) (ha : a < H.next) (hb : b < H.next) : Cl Try.prog pr11 13 [.ptr (some (a, 0)), .ptr (some (b, 0))] H fun r H' => r = .tuple [] ∧ H'.get a = some (sockV qa 1 (some (b, 0)) false) ∧ H'.get b = some (sockV qb 2 (some (a, 0)) false) ∧ Upd (fun z => z = a ∨ z = b) H H' := by
  unfold sockV at *
  have gb1 : (H.set a (.cells [.ptr (some (qa, 0)), .int .i64 1, .int .i64 2, .ptr (some (b, 0)), .int .i64 0, .int .i64 0, .slice none 0 0 none, .bool false, .bool false] 51 true false)).get b = some (.cells [.ptr (some (qb, 0)), .int .i64 2, .int .i64 2, .ptr none, .int .i64 0, .int .i64 0, .slice none 0 0 none, .bool false, .bool false] 51 true false) := by rw [Heap.get_set_ne _ _ (fun e => hab e.symm)]; exact gb
  refine Cl.enter Try.func13 rfl rfl Try.ntmps13 (by simp) ?_
  refine walk ga ?_
  refine walk (both ga gb1) ?_
  refine ⟨rfl, ?_, Heap.get_set_same _ _ _, (((Upd.rfl.set _ ha fun _ => .inl rfl).set _ (by simp; exact hb) fun _ => .inr rfl).set _ (by simp; exact ha) fun _ => .inl rfl).set _ (by simp; exact hb) fun _ => .inr rfl⟩
  rw [Heap.get_set_ne _ _ hab]
  exact Heap.get_set_same _ _ _
theorem Pair5_ok {H : Heap} {ps pm : Nat} {room : Int} (hs : H.get ps = some (storeV pm 1 room)) (hm : H.get pm = some (.map (imap .i64 []))) (hp : ps < H.next) (hpm : pm < H.next) (hne : ps ≠ pm) (hr : 1 ≤ room ∧ room ≤ 4096) :
    Cl Try.prog pr11 5 [.ptr (some (ps, 0))] H fun r H' => r = .tuple [.int .i64 1, .int .i64 2] ∧ ∃ a b qa qb, SockR H' ps pm a b qa qb room false ∧ QueueR H' qb (.slice none 0 0 none) (fun _ => False) [] room ∧ Upd (fun z => z = ps ∨ z = pm) H H' ∧ H.next ≤ qb ∧ H.next ≤ a := by
  refine Cl.enter Try.func5 rfl rfl Try.ntmps5 (by simp) ?_
  refine walk none0 ?_
  refine (make12_ok hs hm hp hpm hne hr (by omega)).mono fun r H1 _ ⟨ea, eb⟩ => ?_
  subst ea
  have hnx : H1.next = H.next + 2 := by rw [eb]; exact made_next
  have s1 : H1.get ps = some (storeV pm 2 room) := by rw [eb]; exact made_ps
  have m1 : H1.get pm = some (.map (imap .i64 [(1, .ptr (some (H.next + 1, 0)))])) := by rw [eb]; exact made_pm hne
  have a1 : H1.get (H.next + 1) = some (sockV H.next 1 none false) := by rw [eb]; exact made_sock hp hpm
  have u1 : Upd (fun z => z = ps ∨ z = pm) H H1 := by rw [eb]; exact made_upd hp hpm
  clear eb
  refine walk none0 ?_
  refine (make12_ok s1 m1 (by omega) (by omega) hne hr (by omega)).mono fun r H2 _ ⟨ea, eb⟩ => ?_
  subst ea
  have hnx2 : H2.next = H1.next + 2 := by rw [eb]; exact made_next
  have s2 : H2.get ps = some (storeV pm 3 room) := by rw [eb]; exact made_ps
  have m2 : H2.get pm = some (.map (imap .i64 [(1, .ptr (some (H.next + 1, 0))), (2, .ptr (some (H1.next + 1, 0)))])) := by rw [eb]; exact made_pm hne
  have a2 : H2.get (H.next + 1) = some (sockV H.next 1 none false) := by rw [eb, made_get (by omega) (by omega) (by omega)]; exact a1
  have b2 : H2.get (H1.next + 1) = some (sockV H1.next 2 none false) := by rw [eb]; exact made_sock (by omega) (by omega)
  have q2 : H2.get H1.next = some (.cells [.slice none 0 0 none, .int .i64 room, .int .i64 0] 68 true false) := by rw [eb]; exact made_q (by omega) (by omega)
  have u2 : Upd (fun z => z = ps ∨ z = pm) H1 H2 := by rw [eb]; exact made_upd (by omega) (by omega)
  clear eb
  refine walk none0 ?_
  refine (join13_ok a2 b2 (by omega) (by omega) (by omega)).mono fun r H3 _ ⟨ea, ga, gb, u3⟩ => ?_
  subst ea
  have hn3 := u3.next
  have U := (u1.trans u2 fun z _ h => h).trans (fq := fun z => z = H.next + 1 ∨ z = H1.next + 1) u3 fun z hz h => by omega
  have hS : SockR H3 ps pm (H.next + 1) (H1.next + 1) H.next H1.next room false := ⟨(u3.keep ps (by omega) (by omega)).trans s2, (u3.keep pm (by omega) (by omega)).trans m2, ga, gb, ⟨by omega, by omega, by omega, by omega⟩, by omega, by omega, by omega, by omega, by omega, by omega, by omega, by omega⟩
  have hQ : QueueR H3 H1.next (.slice none 0 0 none) (fun _ => False) [] room := ⟨by rw [u3.keep H1.next (by omega) (by omega), q2]; simp [total], ⟨[], OwnG.nil, Rows.nil⟩, fun _ h => h.elim, by simp [slBlock], by simp, by simp, by simp [total]; omega, by simp [slBlock], by simp⟩
  unfold sockV at ga gb
  refine walk none0 ?_
  refine Wq.regionD [0, 1, 2, 3, 4, 5, 6, 7, 8, 9] (by kernel_rfl) ?_
  refine walk (both ga gb) ?_
  exact ⟨rfl, _, _, _, _, hS, hQ, U, by omega, by omega⟩
end Go.Abs

/- Chapter 11: Send, Recv and Shut of two joined sockets, walked. -/
namespace Go.Abs
open Go.Proofs
set_option maxRecDepth 100000
set_option linter.unusedVariables false
set_option linter.unusedSimpArgs false

section
variable {H : Heap} {ps pm a b qa qb : Nat} {room : Int} {fa : Bool}
theorem joinedA (h : SockR H ps pm a b qa qb room fa) : Cl Try.prog pr11 14 [.ptr (some (ps, 0)), .int .i64 1] H fun r H' => H' = H ∧ r = .tuple [.ptr (some (a, 0)), .int .i64 0] := by
  have hs := h.s
  have hm := h.m
  have ga := h.ga
  unfold storeV at hs
  unfold sockV at ga
  have i1 : iget 1 [((1 : Int), AV.ptr (some (a, 0))), (2, .ptr (some (b, 0)))] = some (.ptr (some (a, 0))) := rfl
  refine Cl.enter Try.func14 rfl rfl Try.ntmps14 (by simp) ?_
  refine walk none0 ?_
  refine Cl.enter Try.func22 rfl rfl Try.ntmps22 (by simp) ?_
  refine walk (both hs (both hm i1)) ?_
  refine walk ga ?_
  exact ⟨rfl, rfl⟩
theorem joinedB (h : SockR H ps pm a b qa qb room fa) : Cl Try.prog pr11 14 [.ptr (some (ps, 0)), .int .i64 2] H fun r H' => H' = H ∧ r = .tuple [.ptr (some (b, 0)), .int .i64 0] := by
  have hs := h.s
  have hm := h.m
  have gb := h.gb
  unfold storeV at hs
  unfold sockV at gb
  have i1 : iget 2 [((1 : Int), AV.ptr (some (a, 0))), (2, .ptr (some (b, 0)))] = some (.ptr (some (b, 0))) := rfl
  refine Cl.enter Try.func14 rfl rfl Try.ntmps14 (by simp) ?_
  refine walk none0 ?_
  refine Cl.enter Try.func22 rfl rfl Try.ntmps22 (by simp) ?_
  refine walk (both hs (both hm i1)) ?_
  refine walk gb ?_
  exact ⟨rfl, rfl⟩
theorem Send6_ok (h : SockR H ps pm a b qa qb room false) {vb vl : AV} {n e : Int} {R : Heap → Prop} (hp : Cl Try.prog pr11 16 [.ptr (some (qb, 0)), vb, vl] H fun w H' => w = .tuple [.int .i64 n, .int .i64 e] ∧ R H') : Cl Try.prog pr11 6 [.ptr (some (ps, 0)), .int .i64 1, vb, vl] H fun w H' => w = .tuple [.int .i64 n, .int .i64 e] ∧ R H' := by
  have ga := h.ga
  have gb := h.gb
  unfold sockV at ga gb
  refine Cl.enter Try.func6 rfl rfl Try.ntmps6 (by simp) ?_
  refine walk none0 ?_
  refine (joinedA h).mono fun r H1 _ ⟨ea, eb⟩ => ?_
  subst ea; subst eb
  refine walk none0 ?_
  refine Cl.enter Try.func15 rfl rfl Try.ntmps15 (by simp) ?_
  refine walk (both ga gb) ?_
  refine hp.mono fun r H2 _ ⟨ea, hR⟩ => ?_
  subst ea
  refine walk none0 ?_
  exact ⟨rfl, hR⟩
theorem Shut9_ok (h : SockR H ps pm a b qa qb room false) : Cl Try.prog pr11 9 [.ptr (some (ps, 0)), .int .i64 1, .int .i64 1] H fun w H' => H' = H.set a (sockV qa 1 (some (b, 0)) true) := by
  have ga := h.ga
  unfold sockV at *
  refine Cl.enter Try.func9 rfl rfl Try.ntmps9 (by simp) ?_
  refine walk none0 ?_
  refine (joinedA h).mono fun r H1 _ ⟨ea, eb⟩ => ?_
  subst ea; subst eb
  refine walk ga ?_
  rfl
theorem Recv8_ok {slv : AV} {ok : Nat → Prop} {ql : List Part} {most : Int} (h : SockR H ps pm a b qa qb room fa) (hQ : QueueR H qb slv ok ql most) (n m : Int) (hn2 : n ≤ 9223372036854775807) (hm1 : -9223372036854775808 ≤ m) (hm2 : m ≤ 9223372036854775807) :
    Cl Try.prog pr11 8 [.ptr (some (ps, 0)), .int .i64 2, .int .i64 n, .int .i64 m] H fun w H' => ∃ slv' wb wp wd ql' B e, w = .tuple [wb, wp, wd, .int .i64 e] ∧ Upd (fun z => z = qb ∨ slBlock slv = some z) H H' ∧ slBlock slv' = slBlock slv ∧ QueueR H' qb slv' ok ql' most ∧
      bytesS.R H' (fun z => H.next ≤ z ∧ z < H'.next) [wb] B ∧ flatB ql = B ++ flatB ql' ∧ (fa = true → e = 0) ∧ (fa = true → 1 ≤ n → ql ≠ [] → B ≠ []) := by
  have ga := h.ga
  have gb := h.gb
  unfold sockV at ga gb
  have nilB : ∀ H0 : Heap, bytesS.R H0 (fun z => H0.next ≤ z ∧ z < H0.next) [.slice none 0 0 none] [] := fun H0 => ⟨_, rfl, Sl.nil, by simp [slBlock], by simp⟩
  have hfit := hQ.fits
  refine Cl.enter Try.func8 rfl rfl Try.ntmps8 (by simp) ?_
  refine walk none0 ?_
  refine (joinedB h).mono fun r H1 _ ⟨ea, eb⟩ => ?_
  subst ea; subst eb
  by_cases hn1 : n < 1
  · refine walk hn1 ?_
    exact ⟨slv, _, _, _, ql, [], 0, rfl, Upd.rfl, rfl, hQ, nilB _, rfl, fun _ => rfl, fun _ h1 => absurd h1 (by omega)⟩
  · refine walk (both hn1 gb) ?_
    refine (len_some hQ).mono fun r H2 _ ⟨ea, eb⟩ => ?_
    subst ea; subst eb
    by_cases h0 : (total ql : Int) = 0
    · cases fa with
      | false =>
        refine walk h0 ?_
        refine Cl.enter Try.func18 rfl rfl Try.ntmps18 (by simp) ?_
        refine walk (both ga gb) ?_
        exact ⟨slv, _, _, _, ql, [], 35, rfl, Upd.rfl, rfl, hQ, nilB _, rfl, (fun h => by cases h), (fun h => by cases h)⟩
      | true =>
        refine walk h0 ?_
        refine Cl.enter Try.func18 rfl rfl Try.ntmps18 (by simp) ?_
        refine walk (both ga gb) ?_
        refine (take_any hQ n m hn2 hm1 hm2).mono fun w H3 _ ⟨slv', wb, wp, wd, ql', B, A1, A2, e3, hu3, hs3, hQ3, hB3, hP3, hD3, hall, hbb, hA1, hA3, hne⟩ => ?_
        subst e3
        refine walk none0 ?_
        exact ⟨slv', _, _, _, ql', B, 0, rfl, hu3, hs3, hQ3, hB3, hbb, fun _ => rfl, fun _ => hne⟩
    · refine walk (both h0 gb) ?_
      refine (take_any hQ n m hn2 hm1 hm2).mono fun w H3 _ ⟨slv', wb, wp, wd, ql', B, A1, A2, e3, hu3, hs3, hQ3, hB3, hP3, hD3, hall, hbb, hA1, hA3, hne⟩ => ?_
      subst e3
      refine walk none0 ?_
      exact ⟨slv', _, _, _, ql', B, 0, rfl, hu3, hs3, hQ3, hB3, hbb, fun _ => rfl, fun _ => hne⟩
end
end Go.Abs

/- Chapter 11: QueueOrder. -/
namespace Go.Abs
open Go.Proofs
set_option maxRecDepth 100000
set_option linter.unusedVariables false
set_option linter.unusedSimpArgs false

/-- Bytes, as rows. -/
def byteS : Shape UInt8 where
  s := 1
  R _ _ cs x := cs = [.int .u8 x.toNat]
  len h := by rw [h]; rfl
  one h := by rw [h]; rfl
  keep h _ _ := h
  mono h _ := h
@[simp] theorem byteS_s : byteS.s = 1 := rfl
theorem rows_bytes {H : Heap} {ok : Nat → Prop} (l : List UInt8) : Rows byteS H ok (cellsOfBytes l) l := by
  refine ⟨by simp, fun i x hx => ?_⟩
  show ((cellsOfBytes l).drop (i * 1)).take 1 = [.int .u8 x.toNat]
  rw [Nat.mul_one]
  have hi := lt_of_get? hx
  apply List.ext_getElem?
  intro j
  rw [List.getElem?_take]
  cases j with
  | zero => simp [cellsOfBytes, hx]
  | succ j => simp
theorem rows_bytes_eq {H : Heap} {ok : Nat → Prop} {c : List AV} {l : List UInt8} (h : Rows byteS H ok c l) : c = cellsOfBytes l := by
  have hl := h.1
  rw [byteS_s, Nat.mul_one] at hl
  apply List.ext_getElem?
  intro i
  by_cases hi : i < l.length
  · obtain ⟨x, hx⟩ := get_lt hi
    have h2 := h.2 i x hx
    have h2 : (c.drop (i * 1)).take 1 = [.int .u8 x.toNat] := h2
    rw [Nat.mul_one] at h2
    have := sub_get (i := 0) h2 (by decide)
    rw [Nat.add_zero] at this
    rw [this]; simp [cellsOfBytes, hx]
  · rw [List.getElem?_eq_none (by omega), List.getElem?_eq_none (by simp; omega)]
/-- A text out of a slice of bytes that may be empty. -/
theorem conv_or {P : Program} {H : Heap} {s t : TypeId} {v : AV} {bs : List UInt8} (h1 : bytesT P s = true) (h2 : isStrT P t = true) (h : Sl H 1 v bs.length (cellsOfBytes bs)) (hb : bs = [] → ∃ z c el w m, v = .slice (some (z, 0)) 0 0 none ∧ z < H.next ∧ H.get z = some (.cells c el w m)) : convR P s t (some v) H = some (.str bs, H) := by
  by_cases hn : bs = []
  · refine conv_sl h1 h2 h fun b o n c x e => ?_
    obtain ⟨z, c0, el, w, m, e2, q1, q2⟩ := hb hn
    rw [e2] at e
    injection e with e3 e4 _ _
    simp only [Option.some.injEq, Prod.mk.injEq] at e3
    obtain ⟨rfl, rfl⟩ := e3
    subst e4
    exact ⟨q1, c0, el, w, m, q2, by omega⟩
  · exact conv_ne h1 h2 h hn
/-- While nothing has come, the slice is the one made. -/
def Bare (H : Heap) (v : AV) (l : List UInt8) : Prop := l = [] → ∃ z c el w m, v = .slice (some (z, 0)) 0 0 none ∧ z < H.next ∧ H.get z = some (.cells c el w m)
theorem Bare.upd {H H' : Heap} {v : AV} {l : List UInt8} {fp : Nat → Prop} (h : Bare H v l) (u : Upd fp H H') (hd : ∀ z, slBlock v = some z → ¬ fp z) : Bare H' v l := fun e => by
  obtain ⟨z, c, el, w, m, rfl, q1, q2⟩ := h e
  exact ⟨z, c, el, w, m, rfl, by have := u.next; omega, (u.keep z q1 (hd z rfl)).trans q2⟩
theorem Bare.app {H H' : Heap} {v v' : AV} {l k : List UInt8} {m : Nat} (h : Bare H v l) (hm : k.length = m) (hz : m = 0 → v' = v ∧ H' = H) : Bare H' v' (l ++ k) := fun e => by
  have hl : l = [] := (List.append_eq_nil_iff.1 e).1
  have hk : k = [] := (List.append_eq_nil_iff.1 e).2
  subst hk
  obtain ⟨rfl, rfl⟩ := hz (by simpa using hm.symm)
  exact h hl

structure SAct where
  kind : Int
  id : Int
  n : Int
  most : Int
  b : List UInt8
def sactS : Shape SAct := viaS (pairS (intS .i64) (pairS (intS .i64) (pairS (intS .i64) (pairS (intS .i64) bytesS)))) fun x => (x.kind, x.id, x.n, x.most, x.b)
@[simp] theorem sactS_s : sactS.s = 5 := rfl
theorem sact_open {H : Heap} {ok : Nat → Prop} {cs : List AV} {x : SAct} (h : sactS.R H ok cs x) : ∃ v, cs = [.int .i64 x.kind, .int .i64 x.id, .int .i64 x.n, .int .i64 x.most, v] ∧ bytesS.R H ok [v] x.b ∧ (-9223372036854775808 ≤ x.n ∧ x.n ≤ 9223372036854775807) ∧ (-9223372036854775808 ≤ x.most ∧ x.most ≤ 9223372036854775807) := by
  obtain ⟨_, _, rfl, ⟨rfl, w0⟩, _, _, rfl, ⟨rfl, w1⟩, _, _, rfl, ⟨rfl, w2⟩, _, _, rfl, ⟨rfl, w3⟩, ⟨v, rfl, h⟩⟩ := h
  exact ⟨v, rfl, ⟨v, rfl, h⟩, i64_wf w2, i64_wf w3⟩
theorem sact_of {H : Heap} {cs : List AV} (h : Pic Try.prog H 3 29 cs) : ∃ x, sactS.R H (fun b => b < H.next) cs x := by
  unfold Pic at h
  simp only [Try.underlying29] at h
  obtain ⟨hl, hf⟩ := h
  have c3 : Try.prog.cellsOf 3 = 1 := by kernel_rfl
  have c27 : Try.prog.cellsOf 27 = 1 := by kernel_rfl
  have c29 : Try.prog.cellsOf 29 = 5 := by kernel_rfl
  rw [c29] at hl
  match cs, hl with
  | [a, b, c, d, f], _ =>
    simp [c3, c27] at hf
    obtain ⟨h0, h1, h2, h3, h4⟩ := hf
    obtain ⟨k, e0, w0⟩ := pic_int (k := .i64) Try.underlying3 h0
    obtain ⟨id, e1, w1⟩ := pic_int (k := .i64) Try.underlying3 h1
    obtain ⟨p, e2, w2⟩ := pic_int (k := .i64) Try.underlying3 h2
    obtain ⟨r, e3, w3⟩ := pic_int (k := .i64) Try.underlying3 h3
    obtain ⟨bs, s1, s2, s3⟩ := pic_bytes Try.underlying27 (by kernel_rfl) Try.underlying5 h4
    simp at e0 e1 e2 e3
    subst e0; subst e1; subst e2; subst e3
    exact ⟨⟨k, id, p, r, bs⟩, [_], [_, _, _, _], rfl, ⟨rfl, w0⟩, [_], [_, _, _], rfl, ⟨rfl, w1⟩, [_], [_, _], rfl, ⟨rfl, w2⟩, [_], [_], rfl, ⟨rfl, w3⟩, ⟨_, rfl, s1, fun z hz _ => s3 z hz, s2⟩⟩
theorem sacts_of {H : Heap} {v : AV} (h : Pic Try.prog H 4 22 [v]) : ∃ l, List0 sactS H (fun b => b < H.next) v l := by
  obtain ⟨len, c, h1, h2, h3, h4⟩ := pic_slice (s := 5) Try.underlying22 (by kernel_rfl) h
  obtain ⟨l, hl, hp⟩ := list_of fun i hi => sact_of (h4 i hi)
  exact ⟨l, List0.mk (by rw [hl]; exact h1) (fun b hb _ => h3 b hb) (by omega) ⟨by rw [hl]; exact h1.len, hp⟩⟩
end Go.Abs

/- Chapter 11: SocksOrder. -/
namespace Go.Abs
open Go.Proofs
set_option maxRecDepth 100000
set_option linter.unusedVariables false
set_option linter.unusedSimpArgs false

theorem SockR.shut {H : Heap} {ps pm a b qa qb : Nat} {room : Int} (h : SockR H ps pm a b qa qb room false) : SockR (H.set a (sockV qa 1 (some (b, 0)) true)) ps pm a b qa qb room true := by
  obtain ⟨l1, l2, l3, l4⟩ := h.lt
  obtain ⟨n1, n2, n3, n4, n5, n6, n7⟩ := h.ne
  exact ⟨by rw [Heap.get_set_ne _ _ (fun e => n6 e.symm)]; exact h.s, by rw [Heap.get_set_ne _ _ (fun e => n7 e.symm)]; exact h.m, Heap.get_set_same _ _ _, by rw [Heap.get_set_ne _ _ (fun e => n5 e.symm)]; exact h.gb, by simp; exact ⟨l1, l2, l3, l4⟩, by simp; exact h.qlt, h.ne⟩
set_option maxHeartbeats 8000000 in
theorem socksOrder_main (z : Int) (va : AV) (l : List SAct) (H : Heap) (hz0 : 0 ≤ z) (hz : z ≤ 255) (hl : List0 sactS H (fun b => b < H.next) va l) :
    Cl Try.prog pr11 3 [.int .u8 z, va] H fun v _ => v = .bool true := by
  obtain ⟨a, cap, ex, rfl, k1, m1, n1⟩ := hl.form
  unfold maxLen at n1
  have hN : 1 ≤ 1 + z % 100 ∧ 1 + z % 100 ≤ 100 := by omega
  have hmod : z.tmod 100 = z % 100 := Int.tmod_eq_emod_of_nonneg hz0
  refine Cl.enter Try.func3 rfl rfl Try.ntmps3 (by simp) ?_
  refine walk hmod ?_
  refine Cl.wfK ((New4_ok (room := 1 + z % 100) (by omega) H).mono fun v H1 hn1 ⟨ps, pm, ea, kH1, hs1, hm1, hne, hps, hpm, lps, lpm⟩ hw1 => ?_)
  subst ea
  generalize 1 + z % 100 = N at *
  refine walk none0 ?_
  refine Cl.wfK ((Pair5_ok hs1 hm1 lps lpm hne (by omega)).mono fun v H2 hn2 ⟨ea, sa, sb, qa, qb, hS, hQ, hU2, hqb, hsa⟩ hw2 => ?_)
  subst ea
  have hkn1 := kH1.next
  have hU0 : Upd (fun z => H.next ≤ z) H H2 := (Upd.of kH1).trans hU2 fun z hz h => by rcases h with h | h <;> omega
  have hl2 := hl.upd hU0 fun z hz => by omega
  have hqlt := hS.qlt
  refine walk none0 ?_
  refine Wq.loop (fun m e H' => ∃ (i : Nat) (slv vi vo : AV) (ql : List Part) (li lo : List UInt8), i ≤ 60 ∧ m = 60 - i ∧ e 1 = .slice a l.length cap ex ∧ e 5 = .ptr (some (ps, 0)) ∧ e 6 = .int .i64 1 ∧ e 7 = .int .i64 2 ∧ e 8 = vi ∧ e 9 = vo ∧ e 10 = .int .i64 i ∧
    Upd (fun z => z = qb ∨ H2.next ≤ z) H2 H' ∧ (∀ z, slBlock slv = some z → H2.next ≤ z) ∧ (∀ z, slBlock vi = some z → H2.next ≤ z) ∧ (∀ z, slBlock vo = some z → H2.next ≤ z) ∧ Four H2.next byteS 5 H' qb slv vi vo ql li lo N ∧ Bare H' vi li ∧ Bare H' vo lo ∧ li = lo ++ flatB ql ∧ li.length ≤ 200 * i) 60 ?_ ?_
  · have hFr : Four H2.next byteS 5 ((H2.push (.cells [] 5 true false)).push (.cells [] 5 true false)) qb (.slice none 0 0 none) (.slice (some (H2.next, 0)) 0 0 none) (.slice (some (H2.next + 1, 0)) 0 0 none) [] [] [] N := by
      refine ⟨(hQ.kept ((Upd.rfl.push _).push _) hqlt).mono (fun _ h => h.elim) fun z hz => hz.1, by simp; omega, ⟨[], .empty _, Rows.nil⟩, ⟨[], .empty _, Rows.nil⟩, fun z hz => ?_, fun z hz => ?_⟩
      · simp [slBlock] at hz; subst hz
        exact ⟨⟨by simp <;> omega, by omega, by simp [slBlock]⟩, by simp [slBlock]⟩
      · simp [slBlock] at hz; subst hz
        exact ⟨⟨by simp, by omega, by simp [slBlock]⟩, by simp [slBlock]⟩
    exact ⟨0, _, _, _, _, _, _, by omega, by omega, by simp, by simp, by simp, by simp, by simp, by simp, by simp, (Upd.rfl.push _).push _, by simp [slBlock], by simp [slBlock], by simp [slBlock] <;> omega, hFr, fun _ => ⟨H2.next, [], 5, true, false, rfl, by simp <;> omega, by simp⟩, fun _ => ⟨H2.next + 1, [], 5, true, false, rfl, by simp, by simp⟩, by simp [flatB], by simp⟩
  · rintro m e H' ⟨i, slv, vi, vo, ql, li, lo, hi, rfl, g1, g5, g6, g7, g8, g9, g10, hU, hsl, hvi, hvo, hT, hBi, hBo, heq, hsz⟩
    obtain ⟨ci, i1, i2⟩ := hT.i
    obtain ⟨co, o1, o2⟩ := hT.o
    obtain ⟨via, vic, vix, rfl, _⟩ := i1.form
    obtain ⟨voa, voc, vox, rfl, _⟩ := o1.form
    have hUn := hU.next
    have hlo : lo.length ≤ 200 * i := by have := congrArg List.length heq; rw [List.length_append] at this; omega
    by_cases hgo : i < l.length ∧ i < 60
    · obtain ⟨hlt, h60⟩ := hgo
      obtain ⟨x, hx⟩ := get_lt hlt
      have hl' := hl2.upd hU fun z hz => by omega
      obtain ⟨b, o, d, t1, w1, mk1, cs1, rfl, hokb, hb1, hg1, hf1, hd1, hr1⟩ := hl'.at hx
      obtain ⟨vb, rfl, hvb, hxn, hxm⟩ := sact_open hr1
      simp only [sactS_s] at hf1 hd1
      obtain ⟨vb', e', hS', hSb, hSm⟩ := hvb
      injection e' with e' _; subst e'
      obtain ⟨ba, bc, bx, rfl, hbc, hbx⟩ := hS'.form
      unfold maxLen at hSm
      have r0 : d[o + i * 5]? = some (.int .i64 x.kind) := by have := get_of_take (j := 0) hd1 (by decide); simpa using this
      have r2 : d[o + i * 5 + 2]? = some (.int .i64 x.n) := by have := get_of_take (j := 2) hd1 (by decide); simpa using this
      have r3 : d[o + i * 5 + 3]? = some (.int .i64 x.most) := by have := get_of_take (j := 3) hd1 (by decide); simpa using this
      have r4 : d[o + i * 5 + 4]? = some (.slice ba x.b.length bc bx) := by have := get_of_take (j := 4) hd1 (by decide); simpa using this
      refine Wq.seq ?_
      refine Wq.seq ?_
      refine walkr (both g1 (both g5 (both g6 (both g7 (both g8 (both g9 (both g10 (both hlt (both h60 (both hg1 r4)))))))))) ?_
      refine Wq.seq ?_
      refine Wq.block ?_
      refine Wq.seq ?_
      refine walkr (both g1 (both g5 (both g6 (both g7 (both g8 (both g9 (both g10 (both hlt (both h60 (both hg1 r4)))))))))) ?_
      refine Wq.seq (Wq.mono (Q := fun z e Hx => z = .normal ∧ Hx = H' ∧ (∃ ba bc bx, e 11 = .slice ba (x.b.take 200).length bc bx ∧ bytesS.R H' (fun b => b < H.next) [.slice ba (x.b.take 200).length bc bx] (x.b.take 200)) ∧
        e 1 = .slice (some (b, o)) l.length cap ex ∧ e 5 = .ptr (some (ps, 0)) ∧ e 6 = .int .i64 1 ∧ e 7 = .int .i64 2 ∧ e 8 = .slice via li.length vic vix ∧ e 9 = .slice voa lo.length voc vox ∧ e 10 = .int .i64 i) ?_ ?_)
      · by_cases hl2 : 200 < x.b.length
        · obtain ⟨b1, o1, c1, t1, w1, m1, rfl, q1, q2, q3, q4⟩ := hS'.at (by omega)
          have hlt2 : (x.b.take 200).length = 200 := by rw [List.length_take]; omega
          have hsub := hS'.sub (k := 0) (m := 200) (cap' := bc) (ex' := bx) (by omega) (by omega) hbx
          simp only [Nat.zero_mul, Nat.add_zero, List.drop_zero, Nat.mul_one, bytes_take] at hsub
          refine walk (both hl2 (both hbx (both g1 (both g5 (both g6 (both g7 (both g8 (both g9 g10)))))))) ?_
          refine ⟨rfl, rfl, ⟨some (b1, o1), bc, bx, by simp [hlt2], ⟨_, rfl, ?_, fun z hz h0 => hSb z hz (by omega), by rw [hlt2]; unfold maxLen; omega⟩⟩, by simp [g1], by simp [g5], by simp [g6], by simp [g7], by simp [g8], by simp [g9], by simp [g10]⟩
          rw [hlt2]; exact hsub
        · have ht : x.b.take 200 = x.b := List.take_of_length_le (by omega)
          refine walk (both hl2 (both g1 (both g5 (both g6 (both g7 (both g8 (both g9 g10))))))) ?_
          rw [ht]
          exact ⟨rfl, rfl, ⟨ba, bc, bx, by simp, ⟨_, rfl, hS', hSb, by unfold maxLen; omega⟩⟩, by simp [g1], by simp [g5], by simp [g6], by simp [g7], by simp [g8], by simp [g9], by simp [g10]⟩
      · clear hS' hSb hSm hbc hbx hr1 r4
        have hA2 : (x.b.take 200).length ≤ 200 := by rw [List.length_take]; omega
        generalize x.b.take 200 = bs at *
        rintro z e Hx _ ⟨rfl, hHx, ⟨ba, bc, bx, g11, ⟨va', e', hS', hSb, hSm⟩⟩, g1, g5, g6, g7, g8, g9, g10⟩
        subst hHx
        injection e' with e' _; subst e'
        refine Thenq.normal ?_
        have hSK := hS.upd hU fun z h => h.imp id fun h => by have := hS.lt; omega
        by_cases k0 : x.kind.tmod 2 = 0
        · refine walk (both g1 (both g5 (both g6 (both g7 (both g8 (both g9 (both g10 (both g11 (both hlt (both hg1 (both r0 k0))))))))))) ?_
          refine Wq.regionM [(2, 0), (3, 0), (4, 0), (5, 0), (6, 0), (7, 0), (8, 0), (9, 2), (10, 0), (11, 0), (0, 0), (1, 0), (12, 0), (13, 0), (14, 0), (15, 0), (16, 0), (17, 0)] (by kernel_rfl) ?_
          refine mwalk (both g5 (both g6 g11)) ?_
          refine Dq.appendG (own := (.empty _)) (new := cellsOfBytes bs) (q := bs.length) rfl met_none (by simp (disch := omega) [g11, -getElem?_pos, wrapI64, tdivN, tmodN, ipos, ineg, dpos, dneg, slc_l, slc_h, slc_lh, slc_hm, slc_lhm, slc_0, slcR_some, slcR_none, cutS_ok, cutA_ok, byteAt_ok]; first | done | (repeat' (first | rfl | apply And.intro))) ⟨_, rfl, by simp; first | done | (repeat' (first | rfl | apply And.intro))⟩ rfl (by kernel_rfl) (by kernel_rfl) ((hS'.push _).src') (by simp) (cellsOfBytes_one _) (by omega) (by omega) fun w1 H4 o4 b4 s4 => ?_
          have kx4 : Keep Hx H4 := (Upd.rfl.push _).butOne b4 fun z hz _ => by simp [slBlock] at hz; omega
          have hw1n : ∀ z, slBlock w1 = some z → Hx.next ≤ z := fun z hz => by
            rcases s4 with e | e
            · rw [e] at hz; simp [slBlock] at hz; omega
            · rw [e] at hz; simp at hz; omega
          obtain ⟨w1a, w1c, w1x, rfl, _⟩ := o4.form
          have hg4 := (kx4.get hb1).trans hg1
          refine mwalk (both g1 (both g5 (both g6 (both g10 (both hlt (both hg1 (both hg4 r2))))))) ?_
          refine Cl.wfK ((passed_ok x.n i _ (by omega) (by omega) hxn.1 hxn.2).mono fun w H3 hn3 ⟨ls, c3, hl6, hF3, hw3b, hR3⟩ hw3 => ?_)
          obtain ⟨wa, wc, wx, rfl, _⟩ := hF3.own.form
          have k3 := hF3.keep
          have h3n := k3.next
          have hx4n := kx4.next
          refine mwalk (both g1 (both g5 (both g6 g10))) ?_
          simp only [Nat.zero_add, List.nil_append] at o4
          have hHx3 : Keep Hx H3 := kx4.then k3
          have hnewT : ∀ z, Hx.next ≤ z → z < H3.next → okT H2.next H3 qb slv (.slice via li.length vic vix) (.slice voa lo.length voc vox) z := fun z q1 q2 => hT.new hUn q1 q2
          have hRp : Rows passS H3 (okT H2.next H3 qb slv (.slice via li.length vic vix) (.slice voa lo.length voc vox)) c3 ls := hR3.mono fun z hz => by
            rcases hz with hz | hz
            · exact hz.elim
            · exact hnewT z (by have := hz.1; omega) (by have := hz.2.1; omega)
          have hw1n' : ∀ z, slBlock (AV.slice w1a bs.length w1c w1x) = some z → Hx.next ≤ z := fun z hz => hw1n z (by rw [Nat.zero_add]; exact hz)
          have hb5 : bytesS.R H3 (okT H2.next H3 qb slv (.slice via li.length vic vix) (.slice voa lo.length voc vox)) [.slice w1a bs.length w1c w1x] bs := ⟨_, rfl, o4.sl.kept k3, fun z hz h0 => hnewT z (hw1n' z hz) (by have := o4.lt0 h0 z hz; omega), hSm⟩
          have hl5 : List0 passS H3 (okT H2.next H3 qb slv (.slice via li.length vic vix) (.slice voa lo.length voc vox)) (.slice wa ls.length wc wx) ls := List0.mk hF3.own.sl (fun z hz h0 => hnewT z (by have := hF3.new z hz; omega) (hw3b z hz)) (by unfold maxLen; omega) hRp
          have hT5 := hT.kept hHx3
          have hS5 := hSK.upd hHx3 fun z h => h.elim
          refine Cl.wfK ((Send6_ok hS5 (put_ok hT5.q _ _ bs ls hb5 hl5 (fun _ h => h.1) (by omega) (by omega))).mono fun w H6 hn6 ⟨e6, slv', hu6, hs6, hQ6⟩ hw6 => ?_)
          subst e6
          have hT6 := hT5.queue hu6 (From.of hs6) hQ6 fun z hz => by
            rcases hz with hz | hz | hz
            · exact hz.2
            · exact hz.2
            · exact ⟨fun e => by have := (hT5.bi z e).1.1; have := hz.1; omega, fun e => by have := (hT5.bo z e).1.1; have := hz.1; omega, by have := hz.1; omega⟩
          have hUf : Upd (fun z => z = qb ∨ H2.next ≤ z) H2 H6 := ((hU.then hHx3)).trans hu6 fun z hz h' => by
            rcases h' with h' | h'
            · exact .inl h'
            · exact .inr (hsl z h')
          have hslf : ∀ z, slBlock slv' = some z → H2.next ≤ z := fun z hz => by
            rcases hs6 with e | ⟨b, e, hb⟩
            · exact hsl z (e ▸ hz)
            · rw [e] at hz; injection hz with hz; omega
          have h6n := hu6.next
          have hfit := hT5.q.fits
          obtain ⟨hp0, hp1, hp2⟩ := flatB_put (most := N) (ql := ql) (bs := bs) (ls := ls) hfit.1
          generalize (putQ N ql bs ls).2.1 = kk at *
          generalize (putQ N ql bs ls).2.2 = ee at *
          generalize (putQ N ql bs ls).1 = ql2 at *
          have hS6 : Sl H6 1 (.slice ba bs.length bc bx) bs.length (cellsOfBytes bs) := (hS'.kept hHx3).upd hu6 fun z hz h0 h' => by
            have hz2 := hSb z hz (by omega)
            rcases h' with h' | h'
            · omega
            · have := hsl z h'; omega
          obtain ⟨ba', bc', bx', e9, hbc, hbx⟩ := hS6.form
          injection e9 with e10 _ e11 e12
          subst e11; subst e12
          have hlk : (bs.take kk.toNat).length = kk.toNat := by rw [List.length_take]; omega
          have hsub : Sl H6 1 (.slice ba kk.toNat bc bx) kk.toNat (cellsOfBytes (bs.take kk.toNat)) ∨ ba = none := by
            cases ba with
            | none => exact .inr rfl
            | some q =>
              obtain ⟨b2, o2⟩ := q
              have := hS6.sub (k := 0) (m := kk.toNat) (cap' := bc) (ex' := bx) (by omega) (by omega) hbx
              simp only [Nat.zero_mul, Nat.add_zero, List.drop_zero, Nat.mul_one, bytes_take] at this
              exact .inl this
          refine mwalk (both g6 (both g9 g10)) ?_
          obtain ⟨ci6, i6, i6R⟩ := hT6.i
          have hBi6 := (hBi.upd hHx3 fun _ _ h => h).upd hu6 fun z hz => okQ.not z (hT5.bi z hz).1
          have hBo6 := (hBo.upd hHx3 fun _ _ h => h).upd hu6 fun z hz => okQ.not z (hT5.bo z hz).1
          cases ba with
          | none =>
            have hb0 : bs.length = 0 := by
              rcases Nat.eq_zero_or_pos bs.length with h0 | h0
              · exact h0
              · obtain ⟨b, o, c, t, w, m, e, _⟩ := hS6.at h0; cases e
            have hk0 : kk = 0 := by omega
            subst hk0
            rw [hb0] at g11
            refine walk (both g1 (both g5 (both g6 (both g7 (both g8 (both g9 (both g10 g11))))))) ?_
            refine Oq.appendZ (own := i6) (new := ([] : List AV)) (m := 0) (by simp (disch := omega) [g8, -getElem?_pos, wrapI64, tdivN, tmodN, ipos, ineg, dpos, dneg, slc_l, slc_h, slc_lh, slc_hm, slc_lhm, slc_0, slcR_some, slcR_none, cutS_ok, cutA_ok, byteAt_ok]; first | done | (repeat' (first | rfl | apply And.intro))) ⟨_, rfl, by simp; first | done | (repeat' (first | rfl | apply And.intro))⟩ rfl (by kernel_rfl) (by kernel_rfl) ((by simp [srcLen, srcCells])) (by simp [g8]) (by simp [g8]) (by omega) (by omega) fun w7 H7 o7 b7 s7 l7 => ?_
            have hT7 := hT6.app (ls := bs.take (0 : Int).toNat) i6R (rows_bytes _) (by rw [List.length_append, hlk]; exact o7) b7 s7 l7.1
            refine walk g10 ?_
            refine Roundq.normal (60 - (i + 1)) (by omega) ⟨i + 1, slv', w7, _, _, li ++ bs.take (0 : Int).toNat, lo, by omega, rfl, by simp [g1], by simp [g5], by simp [g6], by simp [g7], by simp, by simp [g9], by simp, hUf.butOne b7 fun z hz _ => .inr (hvi z hz), hslf, fun z hz => ?_, hvo, hT7, hBi6.app hlk l7.2, hBo6.upd (Upd.rfl.butOne (fp := fun z => slBlock (AV.slice via li.length vic vix) = some z) b7 fun z hz _ => hz) fun z hz => (hT6.bo z hz).2, ?_, by rw [List.length_append]; omega⟩
            · rcases s7 with e | e
              · exact hvi z (e ▸ hz)
              · rw [e] at hz; injection hz with hz; omega
            · rw [hp2, heq, List.append_assoc]
          | some q =>
            obtain ⟨b2, o2⟩ := q
            have hsub' := hsub.resolve_right (by simp)
            refine walk (both g1 (both g5 (both g6 (both g7 (both g8 (both g9 (both g10 (both g11 (both hp0 (both hp1 hbx)))))))))) ?_
            refine Oq.appendZ (own := i6) (new := cellsOfBytes (bs.take kk.toNat)) (m := kk.toNat) (by simp (disch := omega) [g8, -getElem?_pos, wrapI64, tdivN, tmodN, ipos, ineg, dpos, dneg, slc_l, slc_h, slc_lh, slc_hm, slc_lhm, slc_0, slcR_some, slcR_none, cutS_ok, cutA_ok, byteAt_ok]; first | done | (repeat' (first | rfl | apply And.intro))) ⟨_, rfl, by simp; first | done | (repeat' (first | rfl | apply And.intro))⟩ rfl (by kernel_rfl) (by kernel_rfl) (hsub'.src') (by simp; omega) (cellsOfBytes_one _) (by omega) (by omega) fun w7 H7 o7 b7 s7 l7 => ?_
            have hT7 := hT6.app (ls := bs.take kk.toNat) i6R (rows_bytes _) (by rw [List.length_append, hlk]; exact o7) b7 s7 l7.1
            refine walk g10 ?_
            refine Roundq.normal (60 - (i + 1)) (by omega) ⟨i + 1, slv', w7, _, _, li ++ bs.take kk.toNat, lo, by omega, rfl, by simp [g1], by simp [g5], by simp [g6], by simp [g7], by simp, by simp [g9], by simp, hUf.butOne b7 fun z hz _ => .inr (hvi z hz), hslf, fun z hz => ?_, hvo, hT7, hBi6.app hlk l7.2, hBo6.upd (Upd.rfl.butOne (fp := fun z => slBlock (AV.slice via li.length vic vix) = some z) b7 fun z hz _ => hz) fun z hz => (hT6.bo z hz).2, ?_, by rw [List.length_append]; omega⟩
            · rcases s7 with e | e
              · exact hvi z (e ▸ hz)
              · rw [e] at hz; injection hz with hz; omega
            · rw [hp2, heq, List.append_assoc]
        · refine walk (both g1 (both g5 (both g6 (both g7 (both g8 (both g9 (both g10 (both g11 (both hlt (both hg1 (both r0 k0))))))))))) ?_
          refine Wq.regionD [0, 1, 2, 3, 4, 5, 6, 7, 8, 9, 10, 11, 12, 13, 14, 15, 16, 17, 18, 19, 20, 21] (by kernel_rfl) ?_
          refine walk (both g1 (both g5 (both g6 (both g7 (both g8 (both g9 (both g10 (both g11 (both hlt (both hg1 (both r0 (both r2 r3)))))))))))) ?_
          refine Cl.wfK ((Recv8_ok hSK hT.q x.n x.most hxn.2 hxm.1 hxm.2).mono fun w H3 hn3 ⟨slv', wb, wp, wd, ql', B, e3, e4, hu3, hs3, hQ3, hB3, hbb, _, _⟩ hw3 => ?_)
          subst e4
          have hT3 := hT.queue hu3 (From.of (.inl hs3)) hQ3 fun z hz => hz.2
          obtain ⟨wb', e4, bS, _, _⟩ := hB3
          injection e4 with e4 _; subst e4
          obtain ⟨wba, wbc, wbx, rfl, _⟩ := bS.form
          obtain ⟨co3, o3, o3R⟩ := hT3.o
          have hfitb : B.length ≤ 4096 := by have h1' := congrArg List.length hbb; rw [flatB_total, List.length_append] at h1'; have := hT.q.fits; omega
          refine walk (both g1 (both g5 (both g6 (both g7 (both g8 (both g9 g10)))))) ?_
          refine Oq.appendZ (own := o3) (new := cellsOfBytes B) (m := B.length) (by simp (disch := omega) [g9, -getElem?_pos, wrapI64, tdivN, tmodN, ipos, ineg, dpos, dneg, slc_l, slc_h, slc_lh, slc_hm, slc_lhm, slc_0, slcR_some, slcR_none, cutS_ok, cutA_ok, byteAt_ok]; first | done | (repeat' (first | rfl | apply And.intro))) ⟨_, rfl, by simp; first | done | (repeat' (first | rfl | apply And.intro))⟩ rfl (by kernel_rfl) (by kernel_rfl) (bS.src') (by simp) (cellsOfBytes_one _) (by omega) (by omega) fun w7 H7 o7 b7 s7 l7 => ?_
          have hT7 := (hT3.swap.app (ls := B) (o3R.mono fun z hz => ⟨hz.1, hz.2.2.1, hz.2.1, hz.2.2.2⟩) (rows_bytes B) (by rw [List.length_append]; exact o7) b7 s7 l7.1).swap
          refine walk g10 ?_
          have hUf : Upd (fun z => z = qb ∨ H2.next ≤ z) H2 H3 := hU.trans hu3 fun z hz h' => by
            rcases h' with h' | h'
            · exact .inl h'
            · exact .inr (hsl z h')
          have u7 : Upd (fun z => slBlock (AV.slice voa lo.length voc vox) = some z) H3 H7 := Upd.rfl.butOne b7 fun z hz _ => hz
          refine Roundq.normal (60 - (i + 1)) (by omega) ⟨i + 1, slv', _, w7, _, li, lo ++ B, by omega, rfl, by simp [g1], by simp [g5], by simp [g6], by simp [g7], by simp [g8], by simp, by simp, hUf.butOne b7 fun z hz _ => .inr (hvo z hz), fun z hz => hsl z (by rw [← hs3]; exact hz), hvi, fun z hz => ?_, hT7, (hBi.upd hu3 fun z hz => okQ.not z (hT.bi z hz).1).upd u7 fun z hz => (hT3.bi z hz).2, (hBo.upd hu3 fun z hz => okQ.not z (hT.bo z hz).1).app rfl l7.2, by rw [heq, hbb]; simp, by omega⟩
          rcases s7 with e | e
          · exact hvo z (e ▸ hz)
          · rw [e] at hz; injection hz with hz; have := hUf.next; omega
    · have hSK := hS.upd hU fun z h => h.imp id fun h => by have := hS.lt; omega
      have hfit := hT.q.fits
      obtain ⟨l1, l2, l3, l4⟩ := hS.lt
      obtain ⟨nq1, nq2, nq3, nq4, nq5, nq6, nq7⟩ := hS.ne
      by_cases hlt : i < l.length
      · have h60 : ¬ i < 60 := fun h => hgo ⟨hlt, h⟩
        refine walk (both g1 (both g5 (both g6 (both g7 (both g8 (both g9 (both g10 (both hlt h60)))))))) ?_
        refine Cl.wfK ((Shut9_ok hSK).mono fun w H3 hn3 e3 hw3 => ?_)
        have hS3 := hSK.shut
        have u3 : Upd (fun z => z = sa) H' (H'.set sa (sockV qa 1 (some (sb, 0)) true)) := Upd.rfl.set _ (by omega) fun _ => rfl
        rw [← e3] at hS3 u3
        have hT3 := hT.other u3 (by omega) (by omega) (fun e => by have := hsl _ e; omega) (fun e => by have := hvi _ e; omega) (fun e => by have := hvo _ e; omega)
        have hBi3 := hBi.upd u3 fun z hz e => by have := hvi z hz; omega
        have hBo3 := hBo.upd u3 fun z hz e => by have := hvo z hz; omega
        clear e3
        have hfl := flatB_total ql
        refine walk (both g5 (both g7 (both g8 g9))) ?_
        refine Wq.loop (fun m e Hy => ∃ (j : Nat) (slv vo : AV) (ql : List Part) (lo : List UInt8), j ≤ 300 ∧ m = 300 - j ∧ e 5 = .ptr (some (ps, 0)) ∧ e 7 = .int .i64 2 ∧ e 8 = .slice via li.length vic vix ∧ e 9 = vo ∧ e 18 = .int .i64 j ∧
          (∀ z, slBlock slv = some z → H2.next ≤ z) ∧ (∀ z, slBlock vo = some z → H2.next ≤ z) ∧ H2.next ≤ Hy.next ∧ Four H2.next byteS 5 Hy qb slv (.slice via li.length vic vix) vo ql li lo N ∧ Bare Hy (.slice via li.length vic vix) li ∧ Bare Hy vo lo ∧ li = lo ++ flatB ql ∧ SockR Hy ps pm sa sb qa qb N true ∧ (flatB ql).length ≤ 300 - j) 300 ?_ ?_
        · exact ⟨0, slv, _, ql, lo, by omega, by omega, by simp [g5], by simp [g7], by simp [g8], by simp [g9], by simp, hsl, hvo, by have := u3.next; omega, hT3, hBi3, hBo3, heq, hS3, by omega⟩
        · clear hT hT3 hBi hBo hBi3 hBo3 heq hfl hlo hsl hvo o1 o2
          rintro m2 e2 Hy ⟨j, slv, vo, ql, lo, hj, rfl, q5, q7, q8, q9, q18, hsl, hvo, hHy, hT, hBi, hBo, heq, hSy, hfew⟩
          obtain ⟨ci, i1, i2⟩ := hT.i
          obtain ⟨co, o1, o2⟩ := hT.o
          obtain ⟨voa, voc, vox, rfl, _⟩ := o1.form
          have hli : li.length = lo.length + (flatB ql).length := by rw [heq, List.length_append]
          by_cases hj3 : j < 300
          · refine walk (both q5 (both q7 (both q8 (both q9 (both q18 hj3))))) ?_
            refine Cl.wfK ((Recv8_ok hSy hT.q 100 0 (by omega) (by omega) (by omega)).mono fun w H4 hn4 ⟨slv', wb, wp, wd, ql', B, e4, e5, hu3, hs3, hQ3, hB3, hbb, he0, hne⟩ hw4 => ?_)
            obtain rfl := he0 rfl
            have hne := hne rfl (by omega)
            subst e5
            have hT3 := hT.queue hu3 (From.of (.inl hs3)) hQ3 fun z hz => hz.2
            obtain ⟨wb', e4, bS, _, _⟩ := hB3
            injection e4 with e4 _; subst e4
            obtain ⟨wba, wbc, wbx, rfl, _⟩ := bS.form
            obtain ⟨co3, o3, o3R⟩ := hT3.o
            have hlen := congrArg List.length hbb
            rw [List.length_append] at hlen
            have hS4 := hSy.upd hu3 fun z h => h.imp id fun h => by have := hsl z h; omega
            refine walk (both q5 (both q7 (both q8 (both q9 q18)))) ?_
            refine Oq.appendZ (own := o3) (new := cellsOfBytes B) (m := B.length) (by simp (disch := omega) [q9, -getElem?_pos, wrapI64, tdivN, tmodN, ipos, ineg, dpos, dneg, slc_l, slc_h, slc_lh, slc_hm, slc_lhm, slc_0, slcR_some, slcR_none, cutS_ok, cutA_ok, byteAt_ok]; first | done | (repeat' (first | rfl | apply And.intro))) ⟨_, rfl, by simp; first | done | (repeat' (first | rfl | apply And.intro))⟩ rfl (by kernel_rfl) (by kernel_rfl) (bS.src') (by simp) (cellsOfBytes_one _) (by omega) (by omega) fun w7 H7 o7 b7 s7 l7 => ?_
            have hT7 := (hT3.swap.app (ls := B) (o3R.mono fun z hz => ⟨hz.1, hz.2.2.1, hz.2.1, hz.2.2.2⟩) (rows_bytes B) (by rw [List.length_append]; exact o7) b7 s7 l7.1).swap
            refine walk q18 ?_
            have u7 : Upd (fun z => slBlock (AV.slice voa lo.length voc vox) = some z) H4 H7 := Upd.rfl.butOne b7 fun z hz _ => hz
            have hS7 := hS4.upd u7 fun z h => .inr (by have := hvo z h; omega)
            refine Roundq.normal (300 - (j + 1)) (by omega) ⟨j + 1, slv', w7, _, lo ++ B, by omega, rfl, by simp [q5], by simp [q7], by simp [q8], by simp, by simp, fun z hz => hsl z (by rw [← hs3]; exact hz), fun z hz => ?_, by have := u7.next; omega, hT7, (hBi.upd hu3 fun z hz => okQ.not z (hT.bi z hz).1).upd u7 fun z hz => (hT3.bi z hz).2, (hBo.upd hu3 fun z hz => okQ.not z (hT.bo z hz).1).app rfl l7.2, by rw [heq, hbb]; simp, hS7, ?_⟩
            · rcases s7 with e | e
              · exact hvo z (e ▸ hz)
              · rw [e] at hz; injection hz with hz; omega
            · by_cases hq : ql = []
              · subst hq
                have : (flatB ([] : List Part)).length = 0 := rfl
                omega
              · have := List.length_pos_iff.2 (hne hq)
                omega
          · have hz : flatB ql = [] := List.eq_nil_of_length_eq_zero (by omega)
            rw [hz, List.append_nil] at heq
            subst heq
            obtain rfl := rows_bytes_eq o2
            obtain rfl := rows_bytes_eq i2
            have cv1 : convR Try.prog 27 9 (some (.slice via li.length vic vix)) Hy = some (.str li, Hy) := conv_or (by simp) (by simp) i1.sl hBi
            have cv2 : convR Try.prog 27 9 (some (.slice voa li.length voc vox)) Hy = some (.str li, Hy) := conv_or (by simp) (by simp) o1.sl hBo
            refine walk (both q5 (both q7 (both q8 (both q9 (both q18 (both hj3 (both cv1 cv2))))))) ?_
            refine Cl.prim (v := .bool true) (H' := Hy) rfl rfl ?_
            refine walk none0 ?_
            exact rfl
      · refine walk (both g1 (both g5 (both g6 (both g7 (both g8 (both g9 (both g10 hlt))))))) ?_
        refine Cl.wfK ((Shut9_ok hSK).mono fun w H3 hn3 e3 hw3 => ?_)
        have hS3 := hSK.shut
        have u3 : Upd (fun z => z = sa) H' (H'.set sa (sockV qa 1 (some (sb, 0)) true)) := Upd.rfl.set _ (by omega) fun _ => rfl
        rw [← e3] at hS3 u3
        have hT3 := hT.other u3 (by omega) (by omega) (fun e => by have := hsl _ e; omega) (fun e => by have := hvi _ e; omega) (fun e => by have := hvo _ e; omega)
        have hBi3 := hBi.upd u3 fun z hz e => by have := hvi z hz; omega
        have hBo3 := hBo.upd u3 fun z hz e => by have := hvo z hz; omega
        clear e3
        have hfl := flatB_total ql
        refine walk (both g5 (both g7 (both g8 g9))) ?_
        refine Wq.loop (fun m e Hy => ∃ (j : Nat) (slv vo : AV) (ql : List Part) (lo : List UInt8), j ≤ 300 ∧ m = 300 - j ∧ e 5 = .ptr (some (ps, 0)) ∧ e 7 = .int .i64 2 ∧ e 8 = .slice via li.length vic vix ∧ e 9 = vo ∧ e 18 = .int .i64 j ∧
          (∀ z, slBlock slv = some z → H2.next ≤ z) ∧ (∀ z, slBlock vo = some z → H2.next ≤ z) ∧ H2.next ≤ Hy.next ∧ Four H2.next byteS 5 Hy qb slv (.slice via li.length vic vix) vo ql li lo N ∧ Bare Hy (.slice via li.length vic vix) li ∧ Bare Hy vo lo ∧ li = lo ++ flatB ql ∧ SockR Hy ps pm sa sb qa qb N true ∧ (flatB ql).length ≤ 300 - j) 300 ?_ ?_
        · exact ⟨0, slv, _, ql, lo, by omega, by omega, by simp [g5], by simp [g7], by simp [g8], by simp [g9], by simp, hsl, hvo, by have := u3.next; omega, hT3, hBi3, hBo3, heq, hS3, by omega⟩
        · clear hT hT3 hBi hBo hBi3 hBo3 heq hfl hlo hsl hvo o1 o2
          rintro m2 e2 Hy ⟨j, slv, vo, ql, lo, hj, rfl, q5, q7, q8, q9, q18, hsl, hvo, hHy, hT, hBi, hBo, heq, hSy, hfew⟩
          obtain ⟨ci, i1, i2⟩ := hT.i
          obtain ⟨co, o1, o2⟩ := hT.o
          obtain ⟨voa, voc, vox, rfl, _⟩ := o1.form
          have hli : li.length = lo.length + (flatB ql).length := by rw [heq, List.length_append]
          by_cases hj3 : j < 300
          · refine walk (both q5 (both q7 (both q8 (both q9 (both q18 hj3))))) ?_
            refine Cl.wfK ((Recv8_ok hSy hT.q 100 0 (by omega) (by omega) (by omega)).mono fun w H4 hn4 ⟨slv', wb, wp, wd, ql', B, e4, e5, hu3, hs3, hQ3, hB3, hbb, he0, hne⟩ hw4 => ?_)
            obtain rfl := he0 rfl
            have hne := hne rfl (by omega)
            subst e5
            have hT3 := hT.queue hu3 (From.of (.inl hs3)) hQ3 fun z hz => hz.2
            obtain ⟨wb', e4, bS, _, _⟩ := hB3
            injection e4 with e4 _; subst e4
            obtain ⟨wba, wbc, wbx, rfl, _⟩ := bS.form
            obtain ⟨co3, o3, o3R⟩ := hT3.o
            have hlen := congrArg List.length hbb
            rw [List.length_append] at hlen
            have hS4 := hSy.upd hu3 fun z h => h.imp id fun h => by have := hsl z h; omega
            refine walk (both q5 (both q7 (both q8 (both q9 q18)))) ?_
            refine Oq.appendZ (own := o3) (new := cellsOfBytes B) (m := B.length) (by simp (disch := omega) [q9, -getElem?_pos, wrapI64, tdivN, tmodN, ipos, ineg, dpos, dneg, slc_l, slc_h, slc_lh, slc_hm, slc_lhm, slc_0, slcR_some, slcR_none, cutS_ok, cutA_ok, byteAt_ok]; first | done | (repeat' (first | rfl | apply And.intro))) ⟨_, rfl, by simp; first | done | (repeat' (first | rfl | apply And.intro))⟩ rfl (by kernel_rfl) (by kernel_rfl) (bS.src') (by simp) (cellsOfBytes_one _) (by omega) (by omega) fun w7 H7 o7 b7 s7 l7 => ?_
            have hT7 := (hT3.swap.app (ls := B) (o3R.mono fun z hz => ⟨hz.1, hz.2.2.1, hz.2.1, hz.2.2.2⟩) (rows_bytes B) (by rw [List.length_append]; exact o7) b7 s7 l7.1).swap
            refine walk q18 ?_
            have u7 : Upd (fun z => slBlock (AV.slice voa lo.length voc vox) = some z) H4 H7 := Upd.rfl.butOne b7 fun z hz _ => hz
            have hS7 := hS4.upd u7 fun z h => .inr (by have := hvo z h; omega)
            refine Roundq.normal (300 - (j + 1)) (by omega) ⟨j + 1, slv', w7, _, lo ++ B, by omega, rfl, by simp [q5], by simp [q7], by simp [q8], by simp, by simp, fun z hz => hsl z (by rw [← hs3]; exact hz), fun z hz => ?_, by have := u7.next; omega, hT7, (hBi.upd hu3 fun z hz => okQ.not z (hT.bi z hz).1).upd u7 fun z hz => (hT3.bi z hz).2, (hBo.upd hu3 fun z hz => okQ.not z (hT.bo z hz).1).app rfl l7.2, by rw [heq, hbb]; simp, hS7, ?_⟩
            · rcases s7 with e | e
              · exact hvo z (e ▸ hz)
              · rw [e] at hz; injection hz with hz; omega
            · by_cases hq : ql = []
              · subst hq
                have : (flatB ([] : List Part)).length = 0 := rfl
                omega
              · have := List.length_pos_iff.2 (hne hq)
                omega
          · have hz : flatB ql = [] := List.eq_nil_of_length_eq_zero (by omega)
            rw [hz, List.append_nil] at heq
            subst heq
            obtain rfl := rows_bytes_eq o2
            obtain rfl := rows_bytes_eq i2
            have cv1 : convR Try.prog 27 9 (some (.slice via li.length vic vix)) Hy = some (.str li, Hy) := conv_or (by simp) (by simp) i1.sl hBi
            have cv2 : convR Try.prog 27 9 (some (.slice voa li.length voc vox)) Hy = some (.str li, Hy) := conv_or (by simp) (by simp) o1.sl hBo
            refine walk (both q5 (both q7 (both q8 (both q9 (both q18 (both hj3 (both cv1 cv2))))))) ?_
            refine Cl.prim (v := .bool true) (H' := Hy) rfl rfl ?_
            refine walk none0 ?_
            exact rfl
end Go.Abs

/- The seat's own facts for its rows. -/
namespace Go.Proofs.Ytmggofidibhabaa
open Go.ChangeShapes Go.WideShapes Go.ChangeAt Go.RowKit Go.Abs
set_option linter.unusedVariables false
set_option maxRecDepth 100000

theorem own : ownKnob Try.prog.godebug = none := by kernel_rfl
theorem laidOut : laidOutB Try.prog = true := by kernel_rfl
theorem mixed : Try.prog.follows .mixedOrders = true := by kernel_rfl
theorem plainN : plainNames Try.prog = true := by kernel_rfl
theorem run10 : ((acall Try.prog noPrims 40 10 [] (Heap.start Try.prog.globals.size)).map fun r => sameAV r.1 (.bool true)) = some true := by kernel_rfl
theorem runs10 : ∃ n H', acall Try.prog noPrims n 10 [] (Heap.start Try.prog.globals.size) = some (.bool true, H') := runs_of run10
theorem primsOk : PrimsOk Try.prog pr11 := by
  refine closedPrims_ok mixed plainN fun p hp => ?_
  simp at hp
  subst hp
  exact ⟨rfl, runs10⟩
theorem primsRl : PrimsRl pr11 := closedPrims_rl _
end Go.Proofs.Ytmggofidibhabaa

/- SocksOrder: the row. -/
namespace Go.Proofs.Ytmggofidibhabaa
open Go.ChangeShapes Go.WideShapes Go.ChangeAt Go.RowKit Go.Abs
set_option linter.unusedVariables false
set_option maxRecDepth 100000

theorem socksOrderMain (H : Heap) (xs : List AV) (hG : Try.prog.globals.size ≤ H.next) (hw : Wf H) (h : PicAll Try.prog H 4 [5, 22] xs) : CallsA Try.prog pr11 3 xs H fun v _ => v = .bool true := by
  obtain ⟨a0, r0, rfl, h0, a1, r1, rfl, h1, hend⟩ := h
  obtain rfl : r1 = [] := hend
  refine Cl.callsA primsRl hw ?_
  obtain ⟨z0, rfl, w0, w0'⟩ := picV_u8 Try.underlying5 h0
  obtain ⟨l, hl⟩ := sacts_of (picV_slice Try.underlying22 h1)
  exact socksOrder_main z0 _ l H w0 w0' hl

theorem socksOrderLifted (os : Os) (started : os.Started) (H : Type) (enc : TypeId × Value → H) :
    ReturnsInHanded {} Try.checked os 3 .any (Rows.socksOrderSpec.pre6 enc Try.prog Try.f3 Rows.socksOrderRow.domain false) (Rows.socksOrderSpec.post enc Try.prog Try.f3 false true false false) := by
  refine returnsInHanded_of_change (C := Try.checked) own started (by kernel_rfl) Try.func3
    (ChangeSpec.witness6 (enc := enc) (C := Try.checked) false ⟨#[], #[.int .u8 0, .slice none 0 0], []⟩ 8 (by kernel_rfl) (by kernel_rfl) (by kernel_rfl) (by kernel_rfl)) ?_
  intro W base args ds gs before hval hW hcnd _
  have ep : Try.f3.params.toList = [5, 22] := by kernel_rfl
  refine law_post laidOut rfl (fun ds h => ?_) (tb := 4) (by kernel_rfl) Try.underlying4 ?_ hW (fun p hA => ?_)
  · rw [ep] at h
    match ds, h with
    | [a0, a1], _ => rfl
  · rw [ep]
    intro t ht
    simp at ht
    rcases ht with rfl | rfl <;> exact ⟨by kernel_rfl, of_decide_eq_true (by kernel_rfl)⟩
  · refine law_calls primsOk mixed plainN Try.func3 rfl (n := 4) (base := base) (ts := Try.f3.params.toList) ?_ ?_ ?_ hA
    · rw [ep]
      intro t ht
      simp at ht
      rcases ht with rfl | rfl <;> kernel_rfl
    · rw [ep]
      exact socksOrderMain
    · intro j t v h1 h2
      exact hval j t v (by simpa using h1) (by simpa using h2)

theorem socksOrder : Rows.SocksOrderSaid :=
  OpenClaim.holds_of_wide 3 Try.f3 rfl rfl rfl rfl rfl rfl rfl ⟨rfl, rfl, rfl, rfl, rfl⟩ rfl rfl rfl rfl rfl (by kernel_rfl) Try.func3 (by kernel_rfl)
    (of_decide_eq_true (by kernel_rfl)) (by unfold Func.isWrapper; first | (rw [if_pos (by decide +kernel)]; kernel_rfl) | (rw [if_neg (by decide +kernel)]; exact ⟨rfl, rfl⟩))
    (fun os started H enc _ => socksOrderLifted os started H enc)
-- #print axioms socksOrder
end Go.Proofs.Ytmggofidibhabaa
