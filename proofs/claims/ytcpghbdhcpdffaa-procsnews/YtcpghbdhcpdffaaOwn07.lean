/- Texts on this program, joined. -/
import Derived.Test.YtcpghbdhcpdffaaOwn05
import Derived.Test.YtcpghbdhcpdffaaKit06
import Derived.Test.YtcpghbdhcpdffaaKit03
import Derived.Test.YtcpghbdhcpdffaaKit04
import Derived.Test.YtcpghbdhcpdffaaRows
import Derived.WalkKit
import Derived.ProofKit
import Derived.OpenShut
import Derived.ShutString
import Derived.ChangeOld
import Derived.Below

/- Chapter 14: processes: shapes, finding, taking away, walked. -/
namespace Go.Abs
open Go.Proofs
set_option maxRecDepth 100000
set_option linter.unusedVariables false
set_option linter.unusedSimpArgs false

def pr14 : Prims := closedPrims [(11, .bool true)]
structure ProcT where
  pid : Int
  parent : Int
  lives : Bool
  code : Int
  pd : Bool
  cap : Bool
  cwd : Int
def encP (x : ProcT) : List AV := [.int .i64 x.pid, .int .i64 x.parent, .bool x.lives, .int .i64 x.code, .bool x.pd, .bool x.cap, .int .i64 x.cwd]
@[simp] theorem encP_len (x : ProcT) : (encP x).length = 7 := rfl
def ptrs (ps : List Nat) : List AV := ps.map fun b => .ptr (some (b, 0))
@[simp] theorem ptrs_len (ps : List Nat) : (ptrs ps).length = ps.length := by simp [ptrs]
theorem ptrs_get {ps : List Nat} {i b : Nat} (h : ps[i]? = some b) : (ptrs ps)[i]? = some (.ptr (some (b, 0))) := by unfold ptrs; rw [List.getElem?_map, h]; rfl
theorem ptrs_one (ps : List Nat) : (ptrs ps).all AV.one = true := by rw [List.all_eq_true]; intro x hx; simp [ptrs] at hx; obtain ⟨b, _, rfl⟩ := hx; rfl
def In64 (z : Int) : Prop := -9223372036854775808 ≤ z ∧ z ≤ 9223372036854775807
theorem get_lt {α : Type} {l : List α} {i : Nat} (h : i < l.length) : ∃ x, l[i]? = some x := ⟨l[i], by simp [h]⟩
theorem lt_of_get? {α : Type} {l : List α} {i : Nat} {x : α} (h : l[i]? = some x) : i < l.length := by
  rcases Nat.lt_or_ge i l.length with h' | h'
  · exact h'
  · rw [List.getElem?_eq_none h'] at h; cases h
/-- What belongs to a table. -/
abbrev foot (p : Nat) (slv : AV) (ps : List Nat) (z : Nat) : Prop := z = p ∨ slBlock slv = some z ∨ z ∈ ps
structure TabP (H : Heap) (p : Nat) (slv : AV) (ps : List Nat) (l : List ProcT) (next most : Int) : Prop where
  t : H.get p = some (.cells [slv, .int .i64 next, .int .i64 most] 54 true false)
  own : OwnG H 51 1 slv l.length (ptrs ps)
  len : ps.length = l.length
  procs : ∀ (i b : Nat) (x : ProcT), ps[i]? = some b → l[i]? = some x → H.get b = some (.cells (encP x) 33 true false)
  nodup : ps.Nodup
  lt : ∀ z, foot p slv ps z → z < H.next
  sp : slBlock slv ≠ some p
  pp : p ∉ ps
  ss : ∀ z ∈ ps, slBlock slv ≠ some z
theorem TabP.keep {H H' : Heap} {p : Nat} {slv : AV} {ps : List Nat} {l : List ProcT} {next most : Int} {fp : Nat → Prop} (h : TabP H p slv ps l next most) (u : Upd fp H H') (hd : ∀ z, foot p slv ps z → ¬ fp z) : TabP H' p slv ps l next most :=
  ⟨(u.keep p (h.lt p (.inl rfl)) (hd p (.inl rfl))).trans h.t, h.own.upd u fun z hz => hd z (.inr (.inl hz)), h.len, fun i b x hb hx => by
    have hm : foot p slv ps b := .inr (.inr (List.mem_of_getElem? hb))
    exact (u.keep b (h.lt b hm) (hd b hm)).trans (h.procs i b x hb hx), h.nodup, fun z hz => by have := h.lt z hz; have := u.next; omega, h.sp, h.pp, h.ss⟩
theorem TabP.kept {H H' : Heap} {p : Nat} {slv : AV} {ps : List Nat} {l : List ProcT} {next most : Int} (h : TabP H p slv ps l next most) (k : Keep H H') : TabP H' p slv ps l next most := h.keep k fun _ _ => id
theorem ptr_at {H : Heap} {a : Option (Nat × Nat)} {cap : Nat} {ex : Option Nat} {ps : List Nat} {n i : Nat} {b : Nat} (h : OwnG H 51 1 (.slice a n cap ex) n (ptrs ps)) (hi : i < n) (hb : ps[i]? = some b) :
    ∃ sb o c, a = some (sb, o) ∧ sb < H.next ∧ H.get sb = some (.cells c 51 true false) ∧ o + cap ≤ c.length ∧ n ≤ cap ∧ c[o + i]? = some (.ptr (some (b, 0))) := by
  obtain ⟨sb, o, c, rfl, h0, h1, h2, h3, h4, h5, h6⟩ := h.at (by omega)
  refine ⟨sb, o, c, rfl, h2, h3, by omega, h0, ?_⟩
  rw [sub_get h6 (by omega)]
  exact ptrs_get hb
/-- What find finds. -/
def Found (l : List ProcT) (ps : List Nat) (pid : Int) (w : AV) : Prop := (∃ (i : Nat) (x : ProcT) (b : Nat), l[i]? = some x ∧ x.pid = pid ∧ ps[i]? = some b ∧ w = .ptr (some (b, 0))) ∨ ((∀ x ∈ l, x.pid ≠ pid) ∧ w = .ptr none)
theorem findP_ok {H : Heap} {p : Nat} {slv : AV} {ps : List Nat} {l : List ProcT} {next most : Int} (h : TabP H p slv ps l next most) (hn : l.length ≤ 1000) (pid : Int) :
    Cl Try.prog pr14 28 [.ptr (some (p, 0)), .int .i64 pid] H fun w H' => Found l ps pid w ∧ H' = H := by
  have ht := h.t
  obtain ⟨a, cap, ex, rfl, hc, hex⟩ := h.own.form
  refine Cl.enter Try.func28 rfl rfl Try.ntmps28 (by simp) ?_
  refine walk ht ?_
  refine Wq.loop (fun m e H' => ∃ i : Nat, i ≤ l.length ∧ m = l.length - i ∧ H' = H ∧ e 1 = .int .i64 pid ∧ e 12 = .slice a l.length cap ex ∧ e 13 = .int .i64 l.length ∧ e 14 = .int .i64 i ∧ ∀ (k : Nat) (y : ProcT), l[k]? = some y → k < i → y.pid ≠ pid) l.length ?_ ?_
  · exact ⟨0, by omega, by omega, rfl, by simp, by simp, by simp, by simp, fun k y _ h => by omega⟩
  · rintro m e H' ⟨i, hi, rfl, rfl, g1, g12, g13, g14, hlo⟩
    by_cases hlt : i < l.length
    · obtain ⟨x, hx⟩ := get_lt hlt
      obtain ⟨b, hb⟩ := get_lt (l := ps) (i := i) (by have := h.len; omega)
      have hpb := h.procs i b x hb hx
      unfold encP at hpb
      obtain ⟨sb, o, c, rfl, hs1, hs2, hs3, hs4, hs5⟩ := ptr_at h.own hlt hb
      by_cases he : x.pid = pid
      · refine walk (both g1 (both g12 (both g13 (both g14 (both hlt (both hs2 (both hs5 (both hpb he)))))))) ?_
        exact ⟨.inl ⟨i, x, b, hx, he, hb, rfl⟩, rfl⟩
      · refine walk (both g1 (both g12 (both g13 (both g14 (both hlt (both hs2 (both hs5 (both hpb he)))))))) ?_
        refine Roundq.normal (l.length - (i + 1)) (by omega) ⟨i + 1, by omega, rfl, rfl, by simp [g1], by simp [g12], by simp [g13], by simp, fun k y hy hky => ?_⟩
        rcases Nat.lt_or_ge k i with h' | h'
        · exact hlo k y hy h'
        · obtain rfl : k = i := by omega
          rw [hx] at hy; injection hy with hy; subst hy; exact he
    · refine walk (both g1 (both g12 (both g13 (both g14 hlt)))) ?_
      refine ⟨.inr ⟨fun y hy e => ?_, rfl⟩, rfl⟩
      obtain ⟨k, hk⟩ := List.mem_iff_getElem?.1 hy
      exact hlo k y hk (by have := lt_of_get? hk; omega) e
theorem find_nil (pid : Int) (H : Heap) : Cl Try.prog pr14 28 [.ptr none, .int .i64 pid] H fun w H' => w = .ptr none ∧ H' = H := by
  refine Cl.enter Try.func28 rfl rfl Try.ntmps28 (by simp) ?_
  refine walk none0 ?_
  exact ⟨rfl, rfl⟩
def Alive (l : List ProcT) (ps : List Nat) (pid : Int) (w : AV) : Prop := (∃ (i : Nat) (x : ProcT) (b : Nat), l[i]? = some x ∧ x.pid = pid ∧ x.lives = true ∧ ps[i]? = some b ∧ w = .ptr (some (b, 0))) ∨ ((∀ x ∈ l, x.pid = pid → x.lives = false) ∧ w = .ptr none)
def RiseP (l : List ProcT) : Prop := ∀ (i j : Nat) (x y : ProcT), l[i]? = some x → l[j]? = some y → i < j → x.pid < y.pid
theorem riseP_eq {l : List ProcT} {i j : Nat} {x y : ProcT} (hr : RiseP l) (hx : l[i]? = some x) (hy : l[j]? = some y) (h : x.pid = y.pid) : i = j := by
  rcases Nat.lt_or_ge i j with h' | h'
  · have := hr i j x y hx hy h'; omega
  · rcases Nat.lt_or_ge j i with h'' | h''
    · have := hr j i y x hy hx h''; omega
    · omega
theorem aliveP_ok {H : Heap} {p : Nat} {slv : AV} {ps : List Nat} {l : List ProcT} {next most : Int} (h : TabP H p slv ps l next most) (hr : RiseP l) (hn : l.length ≤ 1000) (pid : Int) :
    Cl Try.prog pr14 27 [.ptr (some (p, 0)), .int .i64 pid] H fun w H' => Alive l ps pid w ∧ H' = H := by
  refine Cl.enter Try.func27 rfl rfl Try.ntmps27 (by simp) ?_
  refine walk none0 ?_
  refine (findP_ok h hn pid).mono fun w H1 _ ⟨e1, e2⟩ => ?_
  subst e2
  rcases e1 with ⟨i, x, b, hx, hp, hb, rfl⟩ | ⟨hno, rfl⟩
  · have hpb := h.procs i b x hb hx
    unfold encP at hpb
    cases hl : x.lives with
    | true =>
      rw [hl] at hpb
      refine walk hpb ?_
      exact ⟨.inl ⟨i, x, b, hx, hp, hl, hb, rfl⟩, rfl⟩
    | false =>
      rw [hl] at hpb
      refine walk hpb ?_
      refine ⟨.inr ⟨fun y hy e => ?_, rfl⟩, rfl⟩
      obtain ⟨k, hk⟩ := List.mem_iff_getElem?.1 hy
      obtain rfl := riseP_eq hr hx hk (by omega)
      rw [hx] at hk; injection hk with hk; subst hk; exact hl
  · refine walk none0 ?_
    exact ⟨.inr ⟨fun y hy e => absurd e (hno y hy), rfl⟩, rfl⟩
theorem alive_nil (pid : Int) (H : Heap) : Cl Try.prog pr14 27 [.ptr none, .int .i64 pid] H fun w H' => w = .ptr none ∧ H' = H := by
  refine Cl.enter Try.func27 rfl rfl Try.ntmps27 (by simp) ?_
  refine walk none0 ?_
  refine (find_nil pid H).mono fun w H1 _ ⟨e1, e2⟩ => ?_
  subst e1; subst e2
  refine walk none0 ?_
  exact ⟨rfl, rfl⟩
theorem lives_of {H : Heap} {p : Nat} {slv : AV} {ps : List Nat} {l : List ProcT} {next most : Int} (h : TabP H p slv ps l next most) (hr : RiseP l) (hn : l.length ≤ 1000) (pid : Int) :
    Cl Try.prog pr14 10 [.ptr (some (p, 0)), .int .i64 pid] H fun w H' => (∃ t, w = .bool t ∧ ((∃ x ∈ l, x.pid = pid ∧ x.lives = true) → t = true)) ∧ H' = H := by
  refine Cl.enter Try.func10 rfl rfl Try.ntmps10 (by simp) ?_
  refine walk none0 ?_
  refine (aliveP_ok h hr hn pid).mono fun w H1 _ ⟨e1, e2⟩ => ?_
  subst e2
  rcases e1 with ⟨i, x, b, hx, hp, hl, hb, rfl⟩ | ⟨hno, rfl⟩
  · refine walk none0 ?_
    exact ⟨⟨true, rfl, fun _ => rfl⟩, rfl⟩
  · refine walk none0 ?_
    refine ⟨⟨false, rfl, fun ⟨x, hx, hp, hl⟩ => ?_⟩, rfl⟩
    have := hno x hx hp
    rw [hl] at this; cases this
theorem lives_nil (pid : Int) (H : Heap) : Cl Try.prog pr14 10 [.ptr none, .int .i64 pid] H fun w H' => w = .bool false ∧ H' = H := by
  refine Cl.enter Try.func10 rfl rfl Try.ntmps10 (by simp) ?_
  refine walk none0 ?_
  refine (alive_nil pid H).mono fun w H1 _ ⟨e1, e2⟩ => ?_
  subst e1; subst e2
  refine walk none0 ?_
  exact ⟨rfl, rfl⟩
end Go.Abs

/- Chapter 14: taking a process away, walked. -/
namespace Go.Abs
open Go.Proofs
set_option maxRecDepth 100000
set_option linter.unusedVariables false
set_option linter.unusedSimpArgs false

def LiveP (H : Heap) (ps : List Nat) : Prop := ∀ b ∈ ps, ∃ c, H.get b = some (.cells c 33 true false) ∧ c.length = 7
theorem LiveP.upd {H H' : Heap} {ps : List Nat} {fp : Nat → Prop} (h : LiveP H ps) (u : Upd fp H H') (hlt : ∀ b ∈ ps, b < H.next) (hd : ∀ b ∈ ps, ¬ fp b) : LiveP H' ps := fun b hb => by
  obtain ⟨c, h1, h2⟩ := h b hb
  exact ⟨c, (u.keep b (hlt b hb) (hd b hb)).trans h1, h2⟩
theorem ptrT51 : isPtrT Try.prog 51 = true := by kernel_rfl
theorem ptrZ51 : ∀ u, Try.prog.underlying 51 = some (.pointer u) → (tsz Try.prog u).getD 0 ≠ 0 := by
  intro u hu
  have h : Try.prog.underlying 51 = some (.pointer 33) := by kernel_rfl
  rw [h] at hu
  injection hu with hu
  injection hu with hu
  subst hu
  rw [show tsz Try.prog 33 = some 7 by kernel_rfl]
  decide
theorem goneC_ok {H : Heap} {b b' box : Nat} {c c' : List AV} (hbox : H.get box = some (.cells [.ptr (some (b', 0))] 51 true false)) (h1 : H.get b = some (.cells c 33 true false)) (l1 : c.length = 7) (h2 : H.get b' = some (.cells c' 33 true false)) (l2 : c'.length = 7) :
    Cl Try.prog pr14 33 [.ptr (some (b, 0)), .ptr (some (box, 0))] H fun w H' => w = .bool (decide (b = b')) ∧ H' = H := by
  by_cases h : b = b'
  · subst h
    have he : binR Try.prog .eql 51 (some (.ptr (some (b, 0)))) (some (.ptr (some (b, 0)))) H = some (.bool true, H) := binR_ptreq ptrT51 ptrZ51
    refine Cl.enter Try.func33 rfl rfl Try.ntmps33 (by simp) ?_
    refine walk (both hbox he) ?_
    exact ⟨by simp, rfl⟩
  · have he : binR Try.prog .eql 51 (some (.ptr (some (b, 0)))) (some (.ptr (some (b', 0)))) H = some (.bool false, H) := binR_ptrne ptrT51 ptrZ51 h h1 h2 (by omega) (by omega)
    refine Cl.enter Try.func33 rfl rfl Try.ntmps33 (by simp) ?_
    refine walk (both hbox he) ?_
    exact ⟨by simp [h], rfl⟩
theorem nodup_ne {ps : List Nat} {i j b c : Nat} (h : ps.Nodup) (hi : ps[i]? = some b) (hj : ps[j]? = some c) (hij : i ≠ j) : b ≠ c := by
  intro e
  subst e
  have h1 := lt_of_get? hi
  have h2 := lt_of_get? hj
  have := List.pairwise_iff_getElem.1 h
  rw [List.getElem?_eq_getElem h1] at hi
  rw [List.getElem?_eq_getElem h2] at hj
  injection hi with hi
  injection hj with hj
  rcases Nat.lt_or_ge i j with h' | h'
  · exact this i j h1 h2 h' (by rw [hi, hj])
  · exact this j i h2 h1 (by omega) (by rw [hi, hj])
theorem indexP_ok {H : Heap} {sb o cap box i b : Nat} {ex : Option Nat} {ps : List Nat} (hL : LiveP H ps) (h : OwnG H 51 1 (.slice (some (sb, o)) ps.length cap ex) ps.length (ptrs ps)) (hi : ps[i]? = some b) (hd : ps.Nodup) (hbox : H.get box = some (.cells [.ptr (some (b, 0))] 51 true false)) (hn : ps.length ≤ 1000) :
    Cl Try.prog pr14 34 [.slice (some (sb, o)) ps.length cap ex, .func (.func 33) [] [.ptr (some (box, 0))]] H fun w H' => w = .int .i64 i ∧ H' = H := by
  have hil := lt_of_get? hi
  refine Cl.enter Try.func34 rfl rfl Try.ntmps34 (by simp) ?_
  refine walk none0 ?_
  refine Wq.loop (fun m e H' => ∃ j : Nat, j ≤ i ∧ m = i - j ∧ H' = H ∧ e 0 = .slice (some (sb, o)) ps.length cap ex ∧ e 1 = .func (.func 33) [] [.ptr (some (box, 0))] ∧ e 7 = .int .i64 ps.length ∧ e 8 = .int .i64 j) i ?_ ?_
  · exact ⟨0, by omega, by omega, rfl, by simp, by simp, by simp, by simp⟩
  · rintro m e H' ⟨j, hj, rfl, rfl, g0, g1, g7, g8⟩
    have hjl : j < ps.length := by omega
    obtain ⟨b', hb'⟩ := get_lt hjl
    obtain ⟨sb', o', c, e', hs1, hs2, hs3, hs4, hs5⟩ := ptr_at h hjl hb'
    simp only [Option.some.injEq, Prod.mk.injEq] at e'
    obtain ⟨rfl, rfl⟩ := e'
    obtain ⟨c1, k1, k2⟩ := hL b' (List.mem_of_getElem? hb')
    obtain ⟨c2, k3, k4⟩ := hL b (List.mem_of_getElem? hi)
    refine walk (both g0 (both g1 (both g7 (both g8 (both hjl (both hs2 hs5)))))) ?_
    refine (goneC_ok hbox k1 k2 k3 k4).mono fun w H1 _ ⟨e1, e2⟩ => ?_
    subst e1; subst e2
    by_cases hij : j = i
    · subst hij
      rw [hi] at hb'; injection hb' with hb'; subst hb'
      refine walk g8 ?_
      exact ⟨rfl, rfl⟩
    · have hne := nodup_ne hd hb' hi hij
      have hdf : decide (b' = b) = false := decide_eq_false hne
      rw [hdf]
      refine walk g8 ?_
      exact Roundq.normal (i - (j + 1)) (by omega) ⟨j + 1, by omega, rfl, rfl, by simp [g0], by simp [g1], by simp [g7], by simp⟩
theorem mix_get {α : Type} {ps qs : List α} {j k : Nat} (hj : j ≤ qs.length) : (qs.take j ++ ps.drop j)[k]? = if k < j then qs[k]? else ps[k]? := by
  have hl : (qs.take j).length = j := List.length_take_of_le hj
  split
  · rw [List.getElem?_append_left (by omega), List.getElem?_take, if_pos (by omega)]
  · rw [List.getElem?_append_right (by omega), hl, List.getElem?_drop]
    congr 1; omega
theorem mix_first {α : Type} {ps : List α} {i : Nat} (hi : i < ps.length) : (ps.eraseIdx i).take i ++ ps.drop i = ps := by
  rw [List.eraseIdx_eq_take_drop_succ, List.take_append_of_le_length (by rw [List.length_take]; omega), List.take_take, Nat.min_self, List.take_append_drop]
theorem mix_next {α : Type} {ps : List α} {i j : Nat} {b : α} (hij : i ≤ j) (hj : j + 1 < ps.length) (hb : ps[j + 1]? = some b) : ((ps.eraseIdx i).take j ++ ps.drop j).set j b = (ps.eraseIdx i).take (j + 1) ++ ps.drop (j + 1) := by
  have hl : (ps.eraseIdx i).length = ps.length - 1 := List.length_eraseIdx_of_lt (by omega)
  apply List.ext_getElem?
  intro k
  rw [mix_get (by omega), List.getElem?_set, mix_get (by omega), List.length_append, List.length_take, List.length_drop, hl]
  by_cases h1 : j = k
  · subst h1
    rw [if_pos rfl, if_pos (by omega), if_pos (by omega), List.getElem?_eraseIdx, if_neg (by omega), hb]
  · rw [if_neg h1]
    by_cases h2 : k < j
    · rw [if_pos h2, if_pos (by omega)]
    · rw [if_neg h2, if_neg (by omega)]
theorem mix_last {α : Type} {ps : List α} {i j : Nat} (hi : i < ps.length) (hj : j + 1 = ps.length) : ((ps.eraseIdx i).take j ++ ps.drop j).take j = ps.eraseIdx i := by
  have hl : (ps.eraseIdx i).length = ps.length - 1 := List.length_eraseIdx_of_lt hi
  rw [List.take_append_of_le_length (by rw [List.length_take]; omega), List.take_take, Nat.min_self, List.take_of_length_le (by omega)]
theorem ptrs_set {ps : List Nat} {j b : Nat} : (ptrs ps).set j (.ptr (some (b, 0))) = ptrs (ps.set j b) := by unfold ptrs; rw [List.map_set]
theorem ptrs_take {ps : List Nat} {j : Nat} : (ptrs ps).take j = ptrs (ps.take j) := by unfold ptrs; rw [List.map_take]
theorem deleteP_ok {H : Heap} {sb o cap box i b : Nat} {ex : Option Nat} {ps : List Nat} (hL : LiveP H ps) (hlt : ∀ z ∈ ps, z < H.next ∧ z ≠ sb) (h : OwnG H 51 1 (.slice (some (sb, o)) ps.length cap ex) ps.length (ptrs ps)) (hi : ps[i]? = some b) (hd : ps.Nodup) (hbox : H.get box = some (.cells [.ptr (some (b, 0))] 51 true false)) (hbs : box ≠ sb) (hbl : box < H.next) (hn : ps.length ≤ 1000) :
    Cl Try.prog pr14 32 [.slice (some (sb, o)) ps.length cap ex, .func (.func 33) [] [.ptr (some (box, 0))]] H fun w H' => w = .slice (some (sb, o)) (ps.eraseIdx i).length cap ex ∧ Upd (fun z => some sb = some z) H H' ∧ OwnG H' 51 1 (.slice (some (sb, o)) (ps.eraseIdx i).length cap ex) (ps.eraseIdx i).length (ptrs (ps.eraseIdx i)) := by
  have hil := lt_of_get? hi
  have hE : (ps.eraseIdx i).length = ps.length - 1 := List.length_eraseIdx_of_lt hil
  obtain ⟨sb', o', c, e', h0, hex, h2, h3, h4, h5, h6⟩ := h.at (by omega)
  simp only [Option.some.injEq, Prod.mk.injEq] at e'
  obtain ⟨rfl, rfl⟩ := e'
  refine Cl.enter Try.func32 rfl rfl Try.ntmps32 (by simp) ?_
  refine walk none0 ?_
  refine (indexP_ok hL h hi hd hbox hn).mono fun w H1 _ ⟨e1, e2⟩ => ?_
  subst e1; subst e2
  refine walk none0 ?_
  refine Wq.loop (fun m e H' => ∃ (j : Nat) (c' : List AV), i ≤ j ∧ j < ps.length ∧ m = ps.length - 1 - j ∧ e 0 = .slice (some (sb, o)) ps.length cap ex ∧ e 1 = .func (.func 33) [] [.ptr (some (box, 0))] ∧ e 5 = .int .i64 j ∧ e 6 = .int .i64 ((j : Int) + 1) ∧ Upd (fun z => some sb = some z) H1 H' ∧ H'.get sb = some (.cells c' 51 true false) ∧ c'.length = c.length ∧ (c'.drop o).take ps.length = ptrs ((ps.eraseIdx i).take j ++ ps.drop j)) (ps.length - 1 - i) ?_ ?_
  · refine ⟨i, c, by omega, by omega, by omega, by simp, by simp, by simp, by simp, Upd.rfl, h3, rfl, ?_⟩
    rw [mix_first hil]
    simpa using h6
  · rintro m e H' ⟨j, c', hij, hj, rfl, g0, g1, g5, g6, hU, hc, hcl, hcs⟩
    have hUn := hU.next
    have hL' := hL.upd hU (fun z hz => (hlt z hz).1) fun z hz e => (hlt z hz).2 (by injection e with e; exact e.symm)
    have hbox' := (hU.keep box hbl fun e => hbs (by injection e with e; exact e.symm)).trans hbox
    by_cases hlt2 : j + 1 < ps.length
    · obtain ⟨b', hb'⟩ := get_lt hlt2
      obtain ⟨c1, k1, k2⟩ := hL' b' (List.mem_of_getElem? hb')
      obtain ⟨c2, k3, k4⟩ := hL' b (List.mem_of_getElem? hi)
      have hcell : c'[o + (j + 1)]? = some (.ptr (some (b', 0))) := by
        rw [sub_get (i := j + 1) hcs (by omega)]
        exact ptrs_get (by rw [mix_get (show j ≤ (ps.eraseIdx i).length by omega), if_neg (by omega)]; exact hb')
      have hne := nodup_ne hd hb' hi (by omega)
      have hdf : decide (b' = b) = false := decide_eq_false hne
      have hjj : (j : Int) + 1 < ps.length := by omega
      have hjn : ((j : Int) + 1).toNat = j + 1 := by omega
      refine walk (both g0 (both g1 (both g5 (both g6 (both hjj (both hc (both hcell hjn))))))) ?_
      refine (goneC_ok hbox' k1 k2 k3 k4).mono fun w H2 _ ⟨e1, e2⟩ => ?_
      subst e1; subst e2
      rw [hdf]
      refine walk (both g0 (both g5 (both g6 hc))) ?_
      refine Roundq.normal (ps.length - 1 - (j + 1)) (by omega) ⟨j + 1, c'.set (o + j) (.ptr (some (b', 0))), by omega, by omega, rfl, by simp [g0], by simp [g1], by simp, by simp, hU.set _ (by omega) fun _ => rfl, Heap.get_set_same _ _ _, by rw [List.length_set]; exact hcl, ?_⟩
      rw [set_sub hcs (by omega), ptrs_set, mix_next hij hlt2 hb']
    · have hjj : ¬ (j : Int) + 1 < ps.length := by omega
      refine walk (both g0 (both g1 (both g5 (both g6 hjj)))) ?_
      have hj1 : ps.length - j = 1 := by omega
      rw [hj1]
      refine Oq.clearG (b := sb) (o := o + j) (k := 1) (cd := c') (by simp; first | done | (repeat' (first | rfl | apply And.intro))) ⟨_, rfl, by simp; first | done | (repeat' (first | rfl | apply And.intro))⟩ (by omega) (by omega) hc (by omega) rfl ?_
      refine walk (both g0 g5) ?_
      have hEj : (ps.eraseIdx i).length = j := by omega
      rw [hEj]
      have hT : (c'.take (o + j)).length = o + j := List.length_take_of_le (by omega)
      refine ⟨rfl, hU.set _ (by omega) fun _ => rfl, ?_⟩
      have hfin := OwnG.refill (H' := H'.set sb (AObj.cells (List.take (o + j) c' ++ AV.ptr none :: List.drop (o + j + 1) c') 51 true false)) (elem := 51) (s := 1) (n := j) (cap := cap) (o := o) (ex := ex) (b := sb) (by omega) hex (by simp; omega) (Heap.get_set_same _ _ _) (by simp only [List.length_append, List.length_cons, List.length_drop, hT]; omega)
      rw [List.drop_append_of_le_length (by omega), List.take_append_of_le_length (by rw [List.length_drop]; omega), List.drop_take, Nat.add_sub_cancel_left, List.take_take, Nat.mul_one, Nat.min_self] at hfin
      have hcj : (c'.drop o).take j = ptrs (ps.eraseIdx i) := by
        have := congrArg (List.take j) hcs
        rw [List.take_take, Nat.min_eq_left (by omega), ptrs_take, mix_last hil (by omega)] at this
        exact this
      rw [hcj] at hfin
      exact hfin
theorem TabP.live {H : Heap} {p : Nat} {slv : AV} {ps : List Nat} {l : List ProcT} {next most : Int} (h : TabP H p slv ps l next most) : LiveP H ps := fun b hb => by
  obtain ⟨i, hi⟩ := List.mem_iff_getElem?.1 hb
  have hil := lt_of_get? hi
  obtain ⟨x, hx⟩ := get_lt (l := l) (i := i) (by have := h.len; omega)
  exact ⟨_, h.procs i b x hi hx, rfl⟩
theorem erase_mem {α : Type} {l : List α} {i : Nat} {x : α} (h : x ∈ l.eraseIdx i) : x ∈ l := List.mem_of_mem_eraseIdx h
theorem gone_ok {H : Heap} {p i b : Nat} {slv : AV} {ps : List Nat} {l : List ProcT} {next most : Int} (h : TabP H p slv ps l next most) (hn : l.length ≤ 1000) (hi : ps[i]? = some b) :
    Cl Try.prog pr14 29 [.ptr (some (p, 0)), .ptr (some (b, 0))] H fun _ H' => ∃ slv', slBlock slv' = slBlock slv ∧ Upd (fun z => z = p ∨ slBlock slv = some z) H H' ∧ TabP H' p slv' (ps.eraseIdx i) (l.eraseIdx i) next most := by
  have hil := lt_of_get? hi
  have hlen := h.len
  obtain ⟨a, cap, ex, rfl, hc, hex⟩ := h.own.form
  obtain ⟨sb, o, c, rfl, hs1, hs2, hs3, hs4, hs5⟩ := ptr_at h.own (by omega) hi
  have k0 : Keep H (H.push (.cells [.ptr (some (b, 0))] 51 true false)) := Upd.rfl.push _
  have h0 := h.kept k0
  have ht0 := h0.t
  have hg0 : (H.push (.cells [.ptr (some (b, 0))] 51 true false)).get H.next = some (.cells [.ptr (some (b, 0))] 51 true false) := by rw [Heap.get_push, if_pos rfl]
  refine Cl.enter Try.func29 rfl rfl Try.ntmps29 (by simp) ?_
  refine walk ht0 ?_
  have ho := h0.own
  rw [← hlen] at ho ⊢
  refine (deleteP_ok h0.live (fun z hz => ⟨h0.lt z (.inr (.inr hz)), fun e => h.ss z hz (by rw [e]; rfl)⟩) ho hi h.nodup hg0 (by omega) (by simp) (by omega)).mono fun w H2 _ ⟨e1, u2, o2⟩ => ?_
  subst e1
  have hps : p ≠ sb := fun e => h.sp (by rw [e]; rfl)
  have hpl := h0.lt p (.inl rfl)
  have hun := u2.next
  have t2 := (u2.keep p hpl fun e => hps (by injection e with e; exact e.symm)).trans ht0
  rw [← hlen] at t2
  refine walk t2 ?_
  have hle : (ps.eraseIdx i).length = (l.eraseIdx i).length := by rw [List.length_eraseIdx_of_lt hil, List.length_eraseIdx_of_lt (by omega), hlen]
  have U : Upd (fun z => z = p ∨ slBlock (.slice (some (sb, o)) ps.length cap ex) = some z) H H2 := (Upd.of k0).trans u2 fun z _ e => .inr e
  refine ⟨.slice (some (sb, o)) (ps.eraseIdx i).length cap ex, rfl, U.set _ (by omega) fun _ => .inl rfl, Heap.get_set_same _ _ _, ?_, hle, fun k b' x hb hx => ?_, h.nodup.sublist (List.eraseIdx_sublist ..), fun z hz => ?_, h.sp, fun hm => h.pp (erase_mem hm), fun z hz => h.ss z (erase_mem hz)⟩
  · rw [← hle]
    exact o2.keep (Nat.le_refl _) fun z hz _ => by
      simp [slBlock] at hz
      rw [Heap.get_set, if_neg (by omega)]
  · have hm : b' ∈ ps := erase_mem (List.mem_of_getElem? hb)
    have hpb : b' ≠ p := fun e => h.pp (e ▸ hm)
    rw [Heap.get_set, if_neg hpb]
    rw [u2.keep b' (h0.lt b' (.inr (.inr hm))) (fun e => h.ss b' hm (by rw [← e]; rfl))]
    rw [List.getElem?_eraseIdx] at hb hx
    split at hb
    · rename_i hk
      rw [if_pos hk] at hx
      exact h0.procs _ _ _ hb hx
    · rename_i hk
      rw [if_neg hk] at hx
      exact h0.procs _ _ _ hb hx
  · have : z < H2.next := by
      rcases hz with e | e | e
      · subst e; omega
      · have := h0.lt z (.inr (.inl e)); omega
      · have := h0.lt z (.inr (.inr (erase_mem e))); omega
    simpa using this
end Go.Abs

/- Chapter 14: what is done to a table, walked. -/
namespace Go.Abs
open Go.Proofs
set_option maxRecDepth 100000
set_option linter.unusedVariables false
set_option linter.unusedSimpArgs false

def repar (pid : Int) (c : ProcT) : ProcT := if c.parent = pid then { c with parent := 1 } else c
/-- What an act may make of a table. -/
inductive StepP (l : List ProcT) (next most : Int) : List ProcT → Int → Prop
  | same : StepP l next most l next
  | fork (i : Nat) (x : ProcT) (pd : Bool) : l[i]? = some x → x.lives = true → ¬ most ≤ (l.length : Int) → StepP l next most (l ++ [⟨next, x.pid, true, 0, pd, x.cap, x.cwd⟩]) (next + 1)
  | exit (i : Nat) (x : ProcT) (code : Int) : l[i]? = some x → x.lives = true → x.pid ≠ 1 → StepP l next most ((l.set i { x with lives := false, code := code, cwd := 0 }).map (repar x.pid)) next
  | gone (i : Nat) (x : ProcT) : l[i]? = some x → x.lives = false → StepP l next most (l.eraseIdx i) next
  | upd (i : Nat) (x y : ProcT) : l[i]? = some x → y.pid = x.pid → y.parent = x.parent → y.lives = x.lives → (x.cap = true → y.cap = true) → StepP l next most (l.set i y) next
def PostT (H : Heap) (p : Nat) (slv : AV) (ps : List Nat) (l : List ProcT) (next most : Int) (H' : Heap) : Prop := ∃ slv' ps' l' next', StepP l next most l' next' ∧ Upd (foot p slv ps) H H' ∧ (∀ z, foot p slv' ps' z → foot p slv ps z ∨ H.next ≤ z) ∧ TabP H' p slv' ps' l' next' most
theorem PostT.same {H : Heap} {p : Nat} {slv : AV} {ps : List Nat} {l : List ProcT} {next most : Int} (h : TabP H p slv ps l next most) : PostT H p slv ps l next most H := ⟨slv, ps, l, next, .same, Upd.rfl, fun z hz => .inl hz, h⟩
theorem TabP.put {H : Heap} {p i b : Nat} {slv : AV} {ps : List Nat} {l : List ProcT} {next most : Int} {x : ProcT} (h : TabP H p slv ps l next most) (hb : ps[i]? = some b) (hx : l[i]? = some x) (y : ProcT) :
    TabP (H.set b (.cells (encP y) 33 true false)) p slv ps (l.set i y) next most ∧ Upd (foot p slv ps) H (H.set b (.cells (encP y) 33 true false)) := by
  have hm := List.mem_of_getElem? hb
  have hbl := h.lt b (.inr (.inr hm))
  have hpb : p ≠ b := fun e => h.pp (e ▸ hm)
  have hi := lt_of_get? hx
  refine ⟨⟨by rw [Heap.get_set, if_neg hpb]; exact h.t, ?_, by rw [List.length_set]; exact h.len, fun k b' z hb' hz => ?_, h.nodup, fun z hz => by simpa using h.lt z hz, h.sp, h.pp, h.ss⟩, Upd.rfl.set _ hbl fun _ => .inr (.inr hm)⟩
  · rw [List.length_set]
    exact h.own.keep (Nat.le_refl _) fun z hz _ => by rw [Heap.get_set, if_neg (fun e => h.ss b hm (by rw [← e]; exact hz))]
  · by_cases hk : i = k
    · subst hk
      rw [hb] at hb'; injection hb' with hb'; subst hb'
      rw [List.getElem?_set_self hi] at hz
      injection hz with hz; subst hz
      exact Heap.get_set_same _ _ _
    · rw [List.getElem?_set_ne hk] at hz
      rw [Heap.get_set, if_neg (nodup_ne h.nodup hb' hb (fun e => hk e.symm))]
      exact h.procs k b' z hb' hz
theorem Upd.foot_gone {H H' : Heap} {p i : Nat} {slv slv' : AV} {ps : List Nat} (hs : slBlock slv' = slBlock slv) : ∀ z, foot p slv' (ps.eraseIdx i) z → foot p slv ps z ∨ H.next ≤ z := fun z hz => by
  rcases hz with e | e | e
  · exact .inl (.inl e)
  · exact .inl (.inr (.inl (hs ▸ e)))
  · exact .inl (.inr (.inr (erase_mem e)))
theorem goneT {H H' : Heap} {p i : Nat} {slv : AV} {ps : List Nat} {l : List ProcT} {next most : Int} {x : ProcT} (hx : l[i]? = some x) (hl : x.lives = false) (h : ∃ slv', slBlock slv' = slBlock slv ∧ Upd (fun z => z = p ∨ slBlock slv = some z) H H' ∧ TabP H' p slv' (ps.eraseIdx i) (l.eraseIdx i) next most) : PostT H p slv ps l next most H' := by
  obtain ⟨slv', hs, u, t⟩ := h
  exact ⟨slv', _, _, next, .gone i x hx hl, Upd.rfl.trans u fun z _ e => (by rcases e with e | e; exact .inl e; exact .inr (.inl e)), fun z hz => by
    rcases hz with e | e | e
    · exact .inl (.inl e)
    · exact .inl (.inr (.inl (hs ▸ e)))
    · exact .inl (.inr (.inr (erase_mem e))), t⟩
theorem enterP_ok {H : Heap} {p : Nat} {slv : AV} {ps : List Nat} {l : List ProcT} {next most : Int} (h : TabP H p slv ps l next most) (hr : RiseP l) (hn : l.length ≤ 1000) (pid : Int) :
    Cl Try.prog pr14 20 [.ptr (some (p, 0)), .int .i64 pid] H fun w H' => (∃ e, w = .int .i64 e) ∧ PostT H p slv ps l next most H' := by
  refine Cl.enter Try.func20 rfl rfl Try.ntmps20 (by simp) ?_
  refine walk none0 ?_
  refine (aliveP_ok h hr hn pid).mono fun w H1 _ ⟨e1, e2⟩ => ?_
  subst e2
  rcases e1 with ⟨i, x, b, hx, hp, hl, hb, rfl⟩ | ⟨hno, rfl⟩
  · have hpb := h.procs i b x hb hx
    obtain ⟨q1, q2⟩ := h.put hb hx { x with cap := true }
    unfold encP at hpb q1 q2
    refine walk hpb ?_
    exact ⟨⟨_, rfl⟩, slv, ps, _, next, .upd i x { x with cap := true } hx rfl rfl rfl (fun _ => rfl), q2, fun z hz => .inl hz, q1⟩
  · refine walk none0 ?_
    exact ⟨⟨_, rfl⟩, .same h⟩
theorem moveP_ok {H : Heap} {p : Nat} {slv : AV} {ps : List Nat} {l : List ProcT} {next most : Int} (h : TabP H p slv ps l next most) (hr : RiseP l) (hn : l.length ≤ 1000) (pid dir : Int) :
    Cl Try.prog pr14 18 [.ptr (some (p, 0)), .int .i64 pid, .int .i64 dir] H fun w H' => (∃ a e, w = .tuple [.int .i64 a, .int .i64 e]) ∧ PostT H p slv ps l next most H' := by
  refine Cl.enter Try.func18 rfl rfl Try.ntmps18 (by simp) ?_
  refine walk none0 ?_
  refine (aliveP_ok h hr hn pid).mono fun w H1 _ ⟨e1, e2⟩ => ?_
  subst e2
  rcases e1 with ⟨i, x, b, hx, hp, hl, hb, rfl⟩ | ⟨hno, rfl⟩
  · have hpb := h.procs i b x hb hx
    obtain ⟨q1, q2⟩ := h.put hb hx { x with cwd := dir }
    unfold encP at hpb q1 q2
    by_cases hd : dir < 1
    · refine walk hd ?_
      exact ⟨⟨_, _, rfl⟩, .same h⟩
    · refine walk (both hpb hd) ?_
      exact ⟨⟨_, _, rfl⟩, slv, ps, _, next, .upd i x { x with cwd := dir } hx rfl rfl rfl id, q2, fun z hz => .inl hz, q1⟩
  · refine walk none0 ?_
    exact ⟨⟨_, _, rfl⟩, .same h⟩
theorem reapP_ok {H : Heap} {p : Nat} {slv : AV} {ps : List Nat} {l : List ProcT} {next most : Int} (h : TabP H p slv ps l next most) (hn : l.length ≤ 1000) (pid : Int) :
    Cl Try.prog pr14 17 [.ptr (some (p, 0)), .int .i64 pid] H fun w H' => (∃ a e, w = .tuple [.int .i64 a, .int .i64 e]) ∧ PostT H p slv ps l next most H' := by
  refine Cl.enter Try.func17 rfl rfl Try.ntmps17 (by simp) ?_
  refine walk none0 ?_
  refine (findP_ok h hn pid).mono fun w H1 _ ⟨e1, e2⟩ => ?_
  subst e2
  rcases e1 with ⟨i, x, b, hx, hp, hb, rfl⟩ | ⟨hno, rfl⟩
  · have hpb := h.procs i b x hb hx
    have hbp : b ≠ p := fun e => h.pp (e ▸ List.mem_of_getElem? hb)
    unfold encP at hpb
    cases hl : x.lives with
    | true =>
      rw [hl] at hpb
      refine walk hpb ?_
      exact ⟨⟨_, _, rfl⟩, .same h⟩
    | false =>
      rw [hl] at hpb
      refine walk hpb ?_
      refine (gone_ok h hn hb).mono fun w H2 _ hg => ?_
      have hP := goneT hx hl hg
      obtain ⟨_, _, u, _⟩ := hg
      have hm := List.mem_of_getElem? hb
      have hp2 := (u.keep b (h.lt b (.inr (.inr hm))) (fun e => by rcases e with e | e; exact hbp e; exact h.ss b hm e)).trans hpb
      refine walk hp2 ?_
      exact ⟨⟨_, _, rfl⟩, hP⟩
  · refine walk none0 ?_
    exact ⟨⟨_, _, rfl⟩, .same h⟩
end Go.Abs

/- Chapter 14: Wait, Exit, Fork, walked. -/
namespace Go.Abs
open Go.Proofs
set_option maxRecDepth 100000
set_option linter.unusedVariables false
set_option linter.unusedSimpArgs false

set_option maxHeartbeats 2000000 in
theorem waitP_ok {H : Heap} {p : Nat} {slv : AV} {ps : List Nat} {l : List ProcT} {next most : Int} (h : TabP H p slv ps l next most) (hn : l.length ≤ 1000) (pid which : Int) :
    Cl Try.prog pr14 16 [.ptr (some (p, 0)), .int .i64 pid, .int .i64 which] H fun w H' => (∃ a c e, w = .tuple [.int .i64 a, .int .i64 c, .int .i64 e]) ∧ PostT H p slv ps l next most H' := by
  have ht := h.t
  obtain ⟨a, cap, ex, e0, hc, hex⟩ := h.own.form
  subst e0
  refine Cl.enter Try.func16 rfl rfl Try.ntmps16 (by simp) ?_
  by_cases hw : which < 0
  · refine walk hw ?_
    exact ⟨⟨_, _, _, rfl⟩, .same h⟩
  · refine walk (both hw ht) ?_
    refine Wq.loop (fun m e H' => ∃ (i : Nat) (any : Bool), i ≤ l.length ∧ m = l.length - i ∧ H' = H ∧ e 0 = .ptr (some (p, 0)) ∧ e 1 = .int .i64 pid ∧ e 2 = .int .i64 which ∧ e 9 = .bool any ∧ e 19 = .slice a l.length cap ex ∧ e 20 = .int .i64 l.length ∧ e 21 = .int .i64 i) l.length ?_ ?_
    · exact ⟨0, false, by omega, by omega, rfl, by simp, by simp, by simp, by simp, by simp, by simp, by simp⟩
    · rintro m e H' ⟨i, any, hi, rfl, rfl, g0, g1, g2, g9, g19, g20, g21⟩
      by_cases hlt : i < l.length
      · obtain ⟨x, hx⟩ := get_lt hlt
        obtain ⟨b, hb⟩ := get_lt (l := ps) (i := i) (by have := h.len; omega)
        have hpb := h.procs i b x hb hx
        have hbp : b ≠ p := fun e => h.pp (e ▸ List.mem_of_getElem? hb)
        unfold encP at hpb
        obtain ⟨sb, o, c, rfl, hs1, hs2, hs3, hs4, hs5⟩ := ptr_at h.own hlt hb
        by_cases hpar : x.parent = pid
        · cases hpd : x.pd with
          | true =>
            rw [hpd] at hpb
            refine walk (both g0 (both g1 (both g2 (both g9 (both g19 (both g20 (both g21 (both hlt (both hs2 (both hs5 (both hpb hpar))))))))))) ?_
            exact Roundq.normal (l.length - (i + 1)) (by omega) ⟨i + 1, any, by omega, rfl, rfl, by simp [g0], by simp [g1], by simp [g2], by simp [g9], by simp [g19], by simp [g20], by simp⟩
          | false =>
            rw [hpd] at hpb
            by_cases hw0 : 0 < which
            · by_cases hwp : x.pid = which
              · skip
                cases hl : x.lives with
                | true =>
                  rw [hl] at hpb
                  refine walk (both hw0 (both hwp (both g0 (both g1 (both g2 (both g9 (both g19 (both g20 (both g21 (both hlt (both hs2 (both hs5 (both hpb hpar))))))))))))) ?_
                  exact Roundq.normal (l.length - (i + 1)) (by omega) ⟨i + 1, true, by omega, rfl, rfl, by simp [g0], by simp [g1], by simp [g2], by simp, by simp [g19], by simp [g20], by simp⟩
                | false =>
                  rw [hl] at hpb
                  refine walk (both hw0 (both hwp (both g0 (both g1 (both g2 (both g9 (both g19 (both g20 (both g21 (both hlt (both hs2 (both hs5 (both hpb hpar))))))))))))) ?_
                  refine (gone_ok h hn hb).mono fun w H2 _ hg => ?_
                  have hP := goneT hx hl hg
                  obtain ⟨_, _, u, _⟩ := hg
                  have hm := List.mem_of_getElem? hb
                  have hp2 := (u.keep b (h.lt b (.inr (.inr hm))) (fun e => by rcases e with e | e; exact hbp e; exact h.ss b hm e)).trans hpb
                  refine walk (both hw0 (both hwp none0)) ?_
                  refine Wq.regionD [0, 1, 2, 3, 4, 5, 6, 7, 8, 9, 10] (by kernel_rfl) ?_
                  refine walk (both hw0 (both hwp hp2)) ?_
                  exact ⟨⟨_, _, _, rfl⟩, hP⟩
              · refine walk (both g0 (both g1 (both g2 (both g9 (both g19 (both g20 (both g21 (both hlt (both hs2 (both hs5 (both hpb (both hpar (both hw0 hwp))))))))))))) ?_
                exact Roundq.normal (l.length - (i + 1)) (by omega) ⟨i + 1, any, by omega, rfl, rfl, by simp [g0], by simp [g1], by simp [g2], by simp [g9], by simp [g19], by simp [g20], by simp⟩
            · cases hl : x.lives with
              | true =>
                rw [hl] at hpb
                refine walk (both hw0 (both g0 (both g1 (both g2 (both g9 (both g19 (both g20 (both g21 (both hlt (both hs2 (both hs5 (both hpb hpar)))))))))))) ?_
                exact Roundq.normal (l.length - (i + 1)) (by omega) ⟨i + 1, true, by omega, rfl, rfl, by simp [g0], by simp [g1], by simp [g2], by simp, by simp [g19], by simp [g20], by simp⟩
              | false =>
                rw [hl] at hpb
                refine walk (both hw0 (both g0 (both g1 (both g2 (both g9 (both g19 (both g20 (both g21 (both hlt (both hs2 (both hs5 (both hpb hpar)))))))))))) ?_
                refine (gone_ok h hn hb).mono fun w H2 _ hg => ?_
                have hP := goneT hx hl hg
                obtain ⟨_, _, u, _⟩ := hg
                have hm := List.mem_of_getElem? hb
                have hp2 := (u.keep b (h.lt b (.inr (.inr hm))) (fun e => by rcases e with e | e; exact hbp e; exact h.ss b hm e)).trans hpb
                refine walk (both hw0 none0) ?_
                refine Wq.regionD [0, 1, 2, 3, 4, 5, 6, 7, 8, 9, 10] (by kernel_rfl) ?_
                refine walk (both hw0 hp2) ?_
                exact ⟨⟨_, _, _, rfl⟩, hP⟩
        · refine walk (both g0 (both g1 (both g2 (both g9 (both g19 (both g20 (both g21 (both hlt (both hs2 (both hs5 (both hpb hpar))))))))))) ?_
          exact Roundq.normal (l.length - (i + 1)) (by omega) ⟨i + 1, any, by omega, rfl, rfl, by simp [g0], by simp [g1], by simp [g2], by simp [g9], by simp [g19], by simp [g20], by simp⟩
      · cases any with
        | true =>
          refine walk (both g9 (both g19 (both g20 (both g21 hlt)))) ?_
          exact ⟨⟨_, _, _, rfl⟩, .same h⟩
        | false =>
          refine walk (both g9 (both g19 (both g20 (both g21 hlt)))) ?_
          exact ⟨⟨_, _, _, rfl⟩, .same h⟩
end Go.Abs

/- Chapter 14: Exit, Fork, walked. -/
namespace Go.Abs
open Go.Proofs
set_option maxRecDepth 100000
set_option linter.unusedVariables false
set_option linter.unusedSimpArgs false

theorem mixm_next {α : Type} {ps qs : List α} {k : Nat} {b : α} (hl : qs.length = ps.length) (hb : qs[k]? = some b) : (qs.take k ++ ps.drop k).set k b = qs.take (k + 1) ++ ps.drop (k + 1) := by
  have hk := lt_of_get? hb
  apply List.ext_getElem?
  intro j
  rw [mix_get (by omega), List.getElem?_set, mix_get (by omega), List.length_append, List.length_take, List.length_drop]
  by_cases h1 : k = j
  · subst h1
    rw [if_pos rfl, if_pos (by omega), if_pos (by omega), hb]
  · rw [if_neg h1]
    by_cases h2 : j < k
    · rw [if_pos h2, if_pos (by omega)]
    · rw [if_neg h2, if_neg (by omega)]
theorem mixm_same {α : Type} {ps qs : List α} {k : Nat} {b : α} (hl : qs.length = ps.length) (hb : qs[k]? = some b) (hp : ps[k]? = some b) : qs.take k ++ ps.drop k = qs.take (k + 1) ++ ps.drop (k + 1) := by
  rw [← mixm_next hl hb]
  have hk := lt_of_get? hb
  apply List.ext_getElem?
  intro j
  rw [List.getElem?_set, mix_get (by omega), List.length_append, List.length_take, List.length_drop]
  by_cases h1 : k = j
  · subst h1
    rw [if_neg (Nat.lt_irrefl _), if_pos rfl, if_pos (by omega), hp]
  · rw [if_neg h1]
set_option maxHeartbeats 2000000 in
theorem exitP_ok {H : Heap} {p : Nat} {slv : AV} {ps : List Nat} {l : List ProcT} {next most : Int} (h : TabP H p slv ps l next most) (hr : RiseP l) (hn : l.length ≤ 1000) (pid code : Int) :
    Cl Try.prog pr14 19 [.ptr (some (p, 0)), .int .i64 pid, .int .i64 code] H fun w H' => (∃ e, w = .int .i64 e) ∧ PostT H p slv ps l next most H' := by
  refine Cl.enter Try.func19 rfl rfl Try.ntmps19 (by simp) ?_
  refine walk none0 ?_
  refine (aliveP_ok h hr hn pid).mono fun w H1 _ ⟨e1, e2⟩ => ?_
  subst e2
  rcases e1 with ⟨i, x, b, hx, hp, hl, hb, rfl⟩ | ⟨hno, rfl⟩
  · have hpb := h.procs i b x hb hx
    by_cases h1 : pid = 1
    · refine walk h1 ?_
      exact ⟨⟨_, rfl⟩, .same h⟩
    · have hil := lt_of_get? hx
      obtain ⟨q1, u1⟩ := h.put hb hx { x with lives := false }
      obtain ⟨q2, u2⟩ := q1.put hb (List.getElem?_set_self hil) { x with lives := false, code := code }
      rw [List.set_set] at q2
      obtain ⟨q3, u3⟩ := q2.put hb (List.getElem?_set_self hil) { x with lives := false, code := code, cwd := 0 }
      rw [List.set_set] at q3
      have U := (u1.trans u2 fun _ _ e => e).trans u3 fun _ _ e => e
      have ht3 := q3.t
      unfold encP at hpb ht3 q3 U
      obtain ⟨a, cap, ex, e0, hc, hex⟩ := h.own.form
      subst e0
      refine walk (both hpb (both h1 ht3)) ?_
      subst hp
      have hx1 : x.pid ≠ 1 := h1
      have hstep := StepP.exit (next := next) (most := most) i x code hx hl hx1
      have hl1 : (l.set i { x with lives := false, code := code, cwd := 0 }).length = l.length := List.length_set
      generalize l.set i { x with lives := false, code := code, cwd := 0 } = l1 at *
      have hlm : (l1.map (repar x.pid)).length = l1.length := List.length_map _
      refine Wq.loop (fun m e H' => ∃ k : Nat, k ≤ l.length ∧ m = l.length - k ∧ e 1 = .int .i64 x.pid ∧ e 32 = .slice a l.length cap ex ∧ e 33 = .int .i64 l.length ∧ e 34 = .int .i64 k ∧ TabP H' p (.slice a l.length cap ex) ps ((l1.map (repar x.pid)).take k ++ l1.drop k) next most ∧ Upd (foot p (.slice a l.length cap ex) ps) H1 H') l.length ?_ ?_
      · exact ⟨0, by omega, by omega, by simp, by simp, by simp, by simp, by simpa using q3, U⟩
      · rintro m e H' ⟨k, hk, rfl, g1, g32, g33, g34, hT, hU⟩
        have hlk : ((l1.map (repar x.pid)).take k ++ l1.drop k).length = l.length := by rw [List.length_append, List.length_take, List.length_drop, hlm]; omega
        have hps : ps.length = l.length := h.len
        by_cases hlt : k < l.length
        · obtain ⟨y, hy⟩ := get_lt (l := l1) (i := k) (by omega)
          obtain ⟨b', hb'⟩ := get_lt (l := ps) (i := k) (by omega)
          have hyk : ((l1.map (repar x.pid)).take k ++ l1.drop k)[k]? = some y := by rw [mix_get (by omega), if_neg (Nat.lt_irrefl _)]; exact hy
          have hym : (l1.map (repar x.pid))[k]? = some (repar x.pid y) := by rw [List.getElem?_map, hy]; rfl
          have hpb' := hT.procs k b' y hb' hyk
          have ho := hT.own
          rw [hlk] at ho
          obtain ⟨sb, o, c, rfl, hs1, hs2, hs3, hs4, hs5⟩ := ptr_at ho hlt hb'
          by_cases hpar : y.parent = x.pid
          · obtain ⟨r1, v1⟩ := hT.put hb' hyk { y with parent := 1 }
            have hre : repar x.pid y = { y with parent := 1 } := by unfold repar; rw [if_pos hpar]
            rw [← hre, mixm_next hlm hym, hre] at r1
            unfold encP at hpb' r1 v1
            refine walk (both g1 (both g32 (both g33 (both g34 (both hlt (both hs2 (both hs5 (both hpb' hpar)))))))) ?_
            exact Roundq.normal (l.length - (k + 1)) (by omega) ⟨k + 1, by omega, rfl, by simp [g1], by simp [g32], by simp [g33], by simp, by simpa [hpar] using r1, by simpa [hpar] using hU.trans v1 fun _ _ e => e⟩
          · have hre : repar x.pid y = y := by unfold repar; rw [if_neg hpar]
            rw [mixm_same hlm hym (by rw [hre]; exact hy)] at hT
            unfold encP at hpb'
            refine walk (both g1 (both g32 (both g33 (both g34 (both hlt (both hs2 (both hs5 (both hpb' hpar)))))))) ?_
            exact Roundq.normal (l.length - (k + 1)) (by omega) ⟨k + 1, by omega, rfl, by simp [g1], by simp [g32], by simp [g33], by simp, hT, hU⟩
        · have hend : k = l.length := by omega
          subst hend
          rw [List.take_of_length_le (by omega), List.drop_of_length_le (by omega), List.append_nil] at hT
          refine walk (both g1 (both g32 (both g33 (both g34 hlt)))) ?_
          exact ⟨⟨_, rfl⟩, _, ps, _, next, hstep, hU, fun z hz => .inl hz, hT⟩
  · refine walk none0 ?_
    exact ⟨⟨_, rfl⟩, .same h⟩
theorem TabP.grow {H H1 H2 : Heap} {p nb : Nat} {slv v' : AV} {ps : List Nat} {l : List ProcT} {next most : Int} {x : ProcT} (h : TabP H p slv ps l next most) (kk : Keep H H1) (hnb : H.next ≤ nb) (hnl : nb < H1.next) (hg : H1.get nb = some (.cells (encP x) 33 true false)) (o : OwnG H2 51 1 v' (l.length + 1) (ptrs ps ++ [.ptr (some (nb, 0))])) (b : ButOne (slBlock slv) H1 H2) (hs : slBlock v' = slBlock slv ∨ slBlock v' = some H1.next) (next' : Int) :
    H2.get p = some (.cells [slv, .int .i64 next, .int .i64 most] 54 true false) ∧ p < H2.next ∧ (∀ z, foot p v' (ps ++ [nb]) z → foot p slv ps z ∨ H.next ≤ z) ∧ ∀ H3, H3.get p = some (.cells [v', .int .i64 next', .int .i64 most] 54 true false) → Upd (fun z => z = p) H2 H3 → TabP H3 p v' (ps ++ [nb]) (l ++ [x]) next' most ∧ Upd (foot p slv ps) H H3 := by
  have hk := kk.next
  have hb := b.1
  have hp := h.lt p (.inl rfl)
  have hg2 : H2.get p = some (.cells [slv, .int .i64 next, .int .i64 most] 54 true false) := by
    rw [b.2.2 p (by omega) (fun e => h.sp e.symm), kk.get hp]; exact h.t
  have hsz : ∀ z, slBlock slv = some z → z < H.next := fun z hz => h.lt z (.inr (.inl hz))
  have hv : ∀ z, slBlock v' = some z → slBlock slv = some z ∨ z = H1.next := fun z hz => by
    rcases hs with e | e
    · exact .inl (e ▸ hz)
    · rw [e] at hz; injection hz with hz; exact .inr hz.symm
  have u : Upd (fun z => slBlock slv = some z) H H2 := (Upd.of kk).butOne b fun z hz _ => hz
  have hpm : ∀ z ∈ ps, z < H.next := fun z hz => h.lt z (.inr (.inr hz))
  have hgn : H2.get nb = some (.cells (encP x) 33 true false) := by
    rw [b.2.2 nb hnl (fun e => by have := hsz nb e.symm; omega)]; exact hg
  have hlen := h.len
  refine ⟨hg2, by omega, fun z hz => ?_, fun H3 h3 u3 => ⟨⟨h3, ?_, by simp; omega, fun i b' y hb' hy => ?_, ?_, fun z hz => ?_, fun e => ?_, fun hm => ?_, fun z hz e => ?_⟩, ?_⟩⟩
  · rcases hz with e | e | e
    · exact .inl (.inl e)
    · rcases hv z e with e | e
      · exact .inl (.inr (.inl e))
      · exact .inr (by omega)
    · rw [List.mem_append] at e
      rcases e with e | e
      · exact .inl (.inr (.inr e))
      · simp at e; exact .inr (by omega)
  · have e : ptrs (ps ++ [nb]) = ptrs ps ++ [.ptr (some (nb, 0))] := by simp [ptrs]
    rw [List.length_append, e]
    exact o.keep u3.next fun z hz hlt => u3.keep z hlt (fun e => by
      rcases hv z hz with e2 | e2
      · exact h.sp (by rw [e2, e])
      · omega)
  · rcases Nat.lt_or_ge i ps.length with hi | hi
    · rw [List.getElem?_append_left hi] at hb'
      rw [List.getElem?_append_left (by omega)] at hy
      have hm := List.mem_of_getElem? hb'
      have hbl := hpm b' hm
      rw [u3.keep b' (by omega) (fun e => h.pp (e ▸ hm)), u.keep b' hbl (h.ss b' hm)]
      exact h.procs i b' y hb' hy
    · have hil := lt_of_get? hb'
      simp at hil
      obtain rfl : i = ps.length := by omega
      rw [List.getElem?_append_right (Nat.le_refl _), Nat.sub_self] at hb'
      rw [List.getElem?_append_right (by omega), hlen, Nat.sub_self] at hy
      simp at hb' hy
      subst hb'; subst hy
      rw [u3.keep nb (by omega) (by omega)]
      exact hgn
  · rw [List.nodup_append]
    refine ⟨h.nodup, by simp, fun a ha b hb => ?_⟩
    simp at hb
    have := hpm a ha
    omega
  · have h3n := u3.next
    rcases hz with e | e | e
    · omega
    · rcases hv z e with e2 | e2
      · have := hsz z e2; omega
      · have hlo := o.form
        obtain ⟨oa, oc, ox, rfl, _⟩ := hlo
        obtain ⟨b2, o2, c2, e3, _, _, hl2, _⟩ := o.at (by omega)
        subst e3
        simp [slBlock] at e
        omega
    · rw [List.mem_append] at e
      rcases e with e | e
      · have := hpm z e; omega
      · simp at e; omega
  · rcases hv p e with e | e
    · exact h.sp e
    · omega
  · rw [List.mem_append] at hm
    rcases hm with e | e
    · exact h.pp e
    · simp at e; omega
  · rw [List.mem_append] at hz
    rcases hz with hz | hz
    · rcases hv z e with e | e
      · exact h.ss z hz e
      · have := hpm z hz; omega
    · simp at hz
      rcases hv z e with e | e
      · have := hsz z e; omega
      · omega
  · exact (Upd.rfl.trans u fun z _ e => .inr (.inl e)).trans u3 fun z _ e => .inl e
theorem forkP_ok {H : Heap} {p : Nat} {slv : AV} {ps : List Nat} {l : List ProcT} {next most : Int} (h : TabP H p slv ps l next most) (hr : RiseP l) (hn : l.length ≤ 1000) (hnx : 0 ≤ next ∧ next ≤ 100000) (pid : Int) (pd : Bool) :
    Cl Try.prog pr14 15 [.ptr (some (p, 0)), .int .i64 pid, .bool pd] H fun w H' => (∃ a e, w = .tuple [.int .i64 a, .int .i64 e]) ∧ PostT H p slv ps l next most H' := by
  have ht := h.t
  refine Cl.enter Try.func15 rfl rfl Try.ntmps15 (by simp) ?_
  refine walk none0 ?_
  refine (aliveP_ok h hr hn pid).mono fun w H1 _ ⟨e1, e2⟩ => ?_
  subst e2
  obtain ⟨a, cap, ex, e0, hc, hex⟩ := h.own.form
  subst e0
  rcases e1 with ⟨i, x, b, hx, hp, hl, hb, rfl⟩ | ⟨hno, rfl⟩
  · have hpb := h.procs i b x hb hx
    unfold encP at hpb
    refine walk none0 ?_
    refine Wq.regionD [0, 1, 2, 3, 4, 5, 6, 7, 8, 9, 10] (by kernel_rfl) ?_
    by_cases hfull : most ≤ (l.length : Int)
    · refine walk (both ht hfull) ?_
      exact ⟨⟨_, _, rfl⟩, .same h⟩
    · refine walk (both ht hfull) ?_
      refine Wq.regionD [1, 2, 3, 4, 5, 6, 7, 8, 9, 10, 11, 12, 13, 14, 15, 16, 17, 18, 19, 20, 21, 22, 0, 23, 24, 25] (by kernel_rfl) ?_
      refine walk (both ht hpb) ?_
      subst hp
      have kk : Keep H1 ((H1.push (.cells (encP ⟨next, x.pid, true, 0, pd, x.cap, x.cwd⟩) 33 true false)).push (.cells [.ptr (some (H1.next, 0))] 51 true false)) := (Upd.rfl.push _).push _
      have hgn : ((H1.push (.cells (encP ⟨next, x.pid, true, 0, pd, x.cap, x.cwd⟩) 33 true false)).push (.cells [.ptr (some (H1.next, 0))] 51 true false)).get H1.next = some (.cells (encP ⟨next, x.pid, true, 0, pd, x.cap, x.cwd⟩) 33 true false) := by
        rw [Heap.get_push, if_neg (by simp), Heap.get_push, if_pos rfl]
      refine Oq.appendG (own := (h.own.kept kk)) (new := [.ptr (some (H1.next, 0))]) (m := 1) (by simp (disch := omega) [none0, -getElem?_pos, wrapI64, tdivN, tmodN, ipos, ineg, dpos, dneg, slc_l, slc_h, slc_lh, slc_hm, slc_lhm, slc_0, slcR_some, slcR_none, cutS_ok, cutA_ok, byteAt_ok]; first | done | (repeat' (first | rfl | apply And.intro))) ⟨_, rfl, by simp; first | done | (repeat' (first | rfl | apply And.intro))⟩ rfl (by kernel_rfl) (by kernel_rfl) (by refine ⟨by simp, ?_⟩; simp (disch := omega) [srcCells, cellsAt, none0, -getElem?_pos, wrapI64, tdivN, tmodN, ipos, ineg, dpos, dneg, slc_l, slc_h, slc_lh, slc_hm, slc_lhm, slc_0, slcR_some, slcR_none, cutS_ok, cutA_ok, byteAt_ok]; first | done | rfl) rfl rfl (by omega) (by omega) fun w1 H2 o1 b1 s1 => ?_
      obtain ⟨q1, q2, q3, q4⟩ := h.grow kk (Nat.le_refl _) (by simp; omega) hgn o1 b1 s1 (next + 1)
      obtain ⟨wa, wc, wx, rfl, _⟩ := o1.form
      refine walk q1 ?_
      obtain ⟨r1, r2⟩ := q4 _ (Heap.get_set_same _ _ _) (((Upd.rfl (fp := fun z => z = p)).set _ q2 fun _ => rfl).set _ (by simpa using q2) fun _ => rfl)
      exact ⟨⟨_, _, rfl⟩, _, _, _, _, .fork i x pd hx hl hfull, r2, q3, r1⟩
  · refine walk none0 ?_
    exact ⟨⟨_, _, rfl⟩, .same h⟩
end Go.Abs

/- Chapter 14: the reference with its one process, walked. -/
namespace Go.Abs
open Go.Proofs
set_option maxRecDepth 100000
set_option linter.unusedVariables false
set_option linter.unusedSimpArgs false

structure MR (H : Heap) (q b : Nat) : Prop where
  t : H.get q = some (.cells [.slice (some (b, 0)) 1 1 none, .int .i64 2, .int .i64 1] 56 true false)
  c : H.get b = some (.cells [.int .i64 1, .int .i64 0, .bool true, .int .i64 0, .bool false, .bool false, .int .i64 1] 33 true false)
  ne : b ≠ q
  lb : b < H.next
  lq : q < H.next
theorem MR.keep {H H' : Heap} {q b : Nat} {fp : Nat → Prop} (h : MR H q b) (u : Upd fp H H') (h1 : ¬ fp q) (h2 : ¬ fp b) : MR H' q b :=
  ⟨(u.keep q h.lq h1).trans h.t, (u.keep b h.lb h2).trans h.c, h.ne, by have := h.lb; have := u.next; omega, by have := h.lq; have := u.next; omega⟩
theorem refNewP_ok (H : Heap) : Cl Try.prog pr14 8 [.int .i64 1] H fun w H' => ∃ q b, w = .ptr (some (q, 0)) ∧ H.next ≤ q ∧ H.next ≤ b ∧ MR H' q b ∧ Keep H H' := by
  refine Cl.enter Try.func8 rfl rfl Try.ntmps8 (by simp) ?_
  refine walk none0 ?_
  refine ⟨H.next + 1, H.next, rfl, by omega, by omega, ⟨?_, ?_, by omega, by simp; omega, by simp⟩, (Upd.rfl.push _).push _⟩
  · rw [Heap.get_push, if_pos (by simp)]
  · rw [Heap.get_push, if_neg (by simp), Heap.get_push, if_pos rfl]
theorem refAtP_ok {H : Heap} {q b : Nat} (h : MR H q b) (pid : Int) : Cl Try.prog pr14 31 [.ptr (some (q, 0)), .int .i64 pid] H fun w H' => w = .int .i64 (if pid = 1 then 0 else -1) ∧ H' = H := by
  have ht := h.t
  have hc := h.c
  refine Cl.enter Try.func31 rfl rfl Try.ntmps31 (by simp) ?_
  refine walk none0 ?_
  refine Wq.loop (fun m e H' => ∃ i : Nat, i ≤ 1 ∧ m = 1 - i ∧ H' = H ∧ e 0 = .ptr (some (q, 0)) ∧ e 1 = .int .i64 pid ∧ e 5 = .int .i64 i ∧ (0 < i → pid ≠ 1)) 1 ?_ ?_
  · exact ⟨0, by omega, by omega, rfl, by simp, by simp, by simp, by omega⟩
  · rintro m e H' ⟨i, hi, rfl, rfl, g0, g1, g5, hlo⟩
    by_cases hlt : i < 1
    · obtain rfl : i = 0 := by omega
      by_cases he : (1 : Int) = pid
      · subst he
        refine walk (both g0 (both g1 (both g5 (both ht hc)))) ?_
        exact ⟨by simp, rfl⟩
      · refine walk (both g0 (both g1 (both g5 (both ht (both hc he))))) ?_
        exact Roundq.normal 0 (by omega) ⟨1, by omega, rfl, rfl, by simp [g0], by simp [g1], by simp, fun _ e => he e.symm⟩
    · obtain rfl : i = 1 := by omega
      have hne := hlo (by omega)
      refine walk (both g0 (both g1 (both g5 ht))) ?_
      exact ⟨by simp [hne], rfl⟩
theorem refLivesP_ok {H : Heap} {q b : Nat} (h : MR H q b) (pid : Int) : Cl Try.prog pr14 30 [.ptr (some (q, 0)), .int .i64 pid] H fun w H' => w = .bool (decide (pid = 1)) ∧ H' = H := by
  have ht := h.t
  have hc := h.c
  refine Cl.enter Try.func30 rfl rfl Try.ntmps30 (by simp) ?_
  refine walk none0 ?_
  refine (refAtP_ok h pid).mono fun w H1 _ ⟨e1, e2⟩ => ?_
  subst e1; subst e2
  by_cases he : pid = 1
  · rw [if_pos he]
    refine walk (both ht hc) ?_
    exact ⟨by simp [he], rfl⟩
  · rw [if_neg he]
    refine walk none0 ?_
    exact ⟨by simp [he], rfl⟩
theorem refExitP_ok {H : Heap} {q b : Nat} (h : MR H q b) (pid code : Int) : Cl Try.prog pr14 21 [.ptr (some (q, 0)), .int .i64 pid, .int .i64 code] H fun w H' => (∃ e, w = .int .i64 e) ∧ Upd (fun z => z = b) H H' := by
  refine Cl.enter Try.func21 rfl rfl Try.ntmps21 (by simp) ?_
  refine walk none0 ?_
  refine (refLivesP_ok h pid).mono fun w H1 _ ⟨e1, e2⟩ => ?_
  subst e1; subst e2
  by_cases he : pid = 1
  · rw [decide_eq_true he]
    refine walk he ?_
    exact ⟨⟨_, rfl⟩, Upd.rfl⟩
  · rw [decide_eq_false he]
    refine walk none0 ?_
    exact ⟨⟨_, rfl⟩, Upd.rfl⟩
theorem refReapP_ok {H : Heap} {q b : Nat} (h : MR H q b) (pid : Int) : Cl Try.prog pr14 23 [.ptr (some (q, 0)), .int .i64 pid] H fun w H' => (∃ a e, w = .tuple [.int .i64 a, .int .i64 e]) ∧ Upd (fun z => z = b) H H' := by
  have ht := h.t
  have hc := h.c
  refine Cl.enter Try.func23 rfl rfl Try.ntmps23 (by simp) ?_
  refine walk none0 ?_
  refine (refAtP_ok h pid).mono fun w H1 _ ⟨e1, e2⟩ => ?_
  subst e1; subst e2
  by_cases he : pid = 1
  · rw [if_pos he]
    refine walk (both ht hc) ?_
    exact ⟨⟨_, _, rfl⟩, Upd.rfl⟩
  · rw [if_neg he]
    refine walk none0 ?_
    exact ⟨⟨_, _, rfl⟩, Upd.rfl⟩
theorem refEnterP_ok {H : Heap} {q b : Nat} (h : MR H q b) (pid : Int) : Cl Try.prog pr14 24 [.ptr (some (q, 0)), .int .i64 pid] H fun w H' => (∃ e, w = .int .i64 e) ∧ Upd (fun z => z = b) H H' := by
  have ht := h.t
  have hc := h.c
  refine Cl.enter Try.func24 rfl rfl Try.ntmps24 (by simp) ?_
  refine walk none0 ?_
  refine (refLivesP_ok h pid).mono fun w H1 _ ⟨e1, e2⟩ => ?_
  subst e1; subst e2
  by_cases he : pid = 1
  · rw [decide_eq_true he]
    refine walk none0 ?_
    refine (refAtP_ok h pid).mono fun w H2 _ ⟨e1, e2⟩ => ?_
    subst e1; subst e2
    rw [if_pos he]
    refine walk (both ht hc) ?_
    exact ⟨⟨_, rfl⟩, Upd.rfl.set _ h.lb fun _ => rfl⟩
  · rw [decide_eq_false he]
    refine walk none0 ?_
    exact ⟨⟨_, rfl⟩, Upd.rfl⟩
theorem refMoveP_ok {H : Heap} {q b : Nat} (h : MR H q b) (pid dir : Int) : Cl Try.prog pr14 25 [.ptr (some (q, 0)), .int .i64 pid, .int .i64 dir] H fun w H' => (∃ a e, w = .tuple [.int .i64 a, .int .i64 e]) ∧ Upd (fun z => z = b) H H' := by
  have ht := h.t
  have hc := h.c
  refine Cl.enter Try.func25 rfl rfl Try.ntmps25 (by simp) ?_
  refine walk none0 ?_
  refine (refLivesP_ok h pid).mono fun w H1 _ ⟨e1, e2⟩ => ?_
  subst e1; subst e2
  by_cases he : pid = 1
  · rw [decide_eq_true he]
    by_cases hd : dir < 1
    · refine walk hd ?_
      exact ⟨⟨_, _, rfl⟩, Upd.rfl⟩
    · refine walk hd ?_
      refine (refAtP_ok h pid).mono fun w H2 _ ⟨e1, e2⟩ => ?_
      subst e1; subst e2
      rw [if_pos he]
      refine walk (both ht hc) ?_
      exact ⟨⟨_, _, rfl⟩, Upd.rfl.set _ h.lb fun _ => rfl⟩
  · rw [decide_eq_false he]
    refine walk none0 ?_
    exact ⟨⟨_, _, rfl⟩, Upd.rfl⟩
theorem refForkP_ok {H : Heap} {q b : Nat} (h : MR H q b) (pid : Int) (pd : Bool) : Cl Try.prog pr14 26 [.ptr (some (q, 0)), .int .i64 pid, .bool pd] H fun w H' => (∃ a e, w = .tuple [.int .i64 a, .int .i64 e]) ∧ Upd (fun z => z = b) H H' := by
  have ht := h.t
  have hc := h.c
  refine Cl.enter Try.func26 rfl rfl Try.ntmps26 (by simp) ?_
  refine walk none0 ?_
  refine (refLivesP_ok h pid).mono fun w H1 _ ⟨e1, e2⟩ => ?_
  subst e1; subst e2
  by_cases he : pid = 1
  · rw [decide_eq_true he]
    refine walk none0 ?_
    refine Wq.regionD [0, 1, 2, 3, 4, 5, 6, 7, 8, 9] (by kernel_rfl) ?_
    refine walk ht ?_
    exact ⟨⟨_, _, rfl⟩, Upd.rfl⟩
  · rw [decide_eq_false he]
    refine walk none0 ?_
    exact ⟨⟨_, _, rfl⟩, Upd.rfl⟩
theorem refWaitP_ok {H : Heap} {q b : Nat} (h : MR H q b) (pid which : Int) : Cl Try.prog pr14 22 [.ptr (some (q, 0)), .int .i64 pid, .int .i64 which] H fun w H' => (∃ a c e, w = .tuple [.int .i64 a, .int .i64 c, .int .i64 e]) ∧ Upd (fun z => z = b) H H' := by
  refine Cl.enter Try.func22 rfl rfl Try.ntmps22 (by simp) ?_
  by_cases hw : which < 0
  · refine walk hw ?_
    exact ⟨⟨_, _, _, rfl⟩, Upd.rfl⟩
  · refine walk hw ?_
    refine Wq.loop (fun m e H' => ∃ (i : Nat) (er : Int), i ≤ 1 ∧ m = 1 - i ∧ e 0 = .ptr (some (q, 0)) ∧ e 1 = .int .i64 pid ∧ e 2 = .int .i64 which ∧ e 9 = .int .i64 er ∧ e 10 = .int .i64 i ∧ Keep H H') 1 ?_ ?_
    · exact ⟨0, _, by omega, by omega, by simp, by simp, by simp, by simp; rfl, by simp, Upd.rfl⟩
    · rintro m e H' ⟨i, er, hi, rfl, g0, g1, g2, g9, g10, hk⟩
      have h' := h.keep hk id id
      have ht := h'.t
      have hc := h'.c
      have kp : Keep H' ((H'.push (.cells [.int .i64 0, .int .i64 0, .bool false, .int .i64 0, .bool false, .bool false, .int .i64 0] 33 true false)).set H'.next (.cells [.int .i64 1, .int .i64 0, .bool true, .int .i64 0, .bool false, .bool false, .int .i64 1] 33 true false)) := (Upd.rfl.push _).set _ (by simp) (by simp)
      by_cases hlt : i < 1
      · obtain rfl : i = 0 := by omega
        by_cases he : (0 : Int) = pid
        · subst he
          by_cases hw0 : which = 0
          · refine walk (both g0 (both g1 (both g2 (both g9 (both g10 (both ht (both hc hw0))))))) ?_
            exact Roundq.normal 0 (by omega) ⟨1, _, by omega, rfl, by simp [g0], by simp [g1], by simp [g2, hw0], by simp; rfl, by simp, hk.then kp⟩
          · by_cases hw1 : (1 : Int) = which
            · subst hw1
              refine walk (both g0 (both g1 (both g2 (both g9 (both g10 (both ht hc)))))) ?_
              exact Roundq.normal 0 (by omega) ⟨1, _, by omega, rfl, by simp [g0], by simp [g1], by simp [g2], by simp; rfl, by simp, hk.then kp⟩
            · refine walk (both g0 (both g1 (both g2 (both g9 (both g10 (both ht (both hc (both hw0 hw1)))))))) ?_
              exact Roundq.normal 0 (by omega) ⟨1, er, by omega, rfl, by simp [g0], by simp [g1], by simp [g2], by simp [g9], by simp, hk.then kp⟩
        · refine walk (both g0 (both g1 (both g2 (both g9 (both g10 (both ht (both hc he))))))) ?_
          exact Roundq.normal 0 (by omega) ⟨1, er, by omega, rfl, by simp [g0], by simp [g1], by simp [g2], by simp [g9], by simp, hk.then kp⟩
      · obtain rfl : i = 1 := by omega
        refine walk (both g0 (both g9 (both g10 ht))) ?_
        exact ⟨⟨_, _, _, rfl⟩, Upd.of hk⟩
end Go.Abs

/- Chapter 14: one act on a table and on a fresh one of the reference, walked. -/
namespace Go.Abs
open Go.Proofs
set_option maxRecDepth 100000
set_option linter.unusedVariables false
set_option linter.unusedSimpArgs false

def PostD (H : Heap) (p b : Nat) (slv : AV) (ps : List Nat) (l : List ProcT) (next most : Int) (H' : Heap) : Prop := ∃ slv' ps' l' next', StepP l next most l' next' ∧ Upd (fun z => foot p slv ps z ∨ z = b) H H' ∧ (∀ z, foot p slv' ps' z → foot p slv ps z ∨ H.next ≤ z) ∧ TabP H' p slv' ps' l' next' most
theorem PostT.fin {H H0 H1 H2 : Heap} {p b k : Nat} {slv : AV} {ps : List Nat} {l : List ProcT} {next most : Int} (k0 : Keep H H0) (hlt : ∀ z, foot p slv ps z → z < k) (hk : k ≤ b) (hb : b < H.next) (h : PostT H0 p slv ps l next most H1) (u : Upd (fun z => z = b) H1 H2) : PostD H p b slv ps l next most H2 := by
  obtain ⟨slv', ps', l', next', hs, u1, hf, t⟩ := h
  have hn := k0.next
  refine ⟨slv', ps', l', next', hs, ((Upd.of k0).trans u1 fun z _ e => .inl e).trans u fun z _ e => .inr e, fun z hz => ?_, t.keep u fun z hz e => ?_⟩
  · rcases hf z hz with h' | h'
    · exact .inl h'
    · exact .inr (by omega)
  · rcases hf z hz with h' | h'
    · have := hlt z h'; omega
    · omega
theorem PostT.mid {H0 H1 : Heap} {p q b k : Nat} {slv : AV} {ps : List Nat} {l : List ProcT} {next most : Int} (hlt : ∀ z, foot p slv ps z → z < k) (hk : k ≤ b) (hq : k ≤ q) (m : MR H0 q b) (h : PostT H0 p slv ps l next most H1) : MR H1 q b := by
  obtain ⟨slv', ps', l', next', hs, u1, hf, t⟩ := h
  exact m.keep u1 (fun e => by have := hlt q e; omega) (fun e => by have := hlt b e; omega)
set_option maxHeartbeats 4000000 in
theorem doesP_ok {H : Heap} {p q b k : Nat} {slv : AV} {ps : List Nat} {l : List ProcT} {next most : Int} (h : TabP H p slv ps l next most) (m : MR H q b) (hlt : ∀ z, foot p slv ps z → z < k) (hk : k ≤ b) (hq : k ≤ q) (hr : RiseP l) (hn : l.length ≤ 1000) (hnx : 0 ≤ next ∧ next ≤ 100000) (kd pid n : Int) :
    Cl Try.prog pr14 7 [.ptr (some (p, 0)), .ptr (some (q, 0)), .agg [.int .i64 kd, .int .i64 pid, .int .i64 n]] H fun w H' => PostD H p b slv ps l next most H' := by
  refine Cl.enter Try.func7 rfl rfl Try.ntmps7 (by simp) ?_
  have k0 : Keep H (H.push (.cells [.int .i64 kd, .int .i64 pid, .int .i64 n] 29 true false)) := Upd.rfl.push _
  have hg0 : (H.push (.cells [.int .i64 kd, .int .i64 pid, .int .i64 n] 29 true false)).get H.next = some (.cells [.int .i64 kd, .int .i64 pid, .int .i64 n] 29 true false) := by rw [Heap.get_push, if_pos rfl]
  have h0 := h.kept k0
  have m0 := m.keep k0 id id
  have hbl := m.lb
  have hgA : ∀ {H1 : Heap}, PostT (H.push (.cells [.int .i64 kd, .int .i64 pid, .int .i64 n] 29 true false)) p slv ps l next most H1 → H1.get H.next = some (.cells [.int .i64 kd, .int .i64 pid, .int .i64 n] 29 true false) := fun ⟨_, _, _, _, _, u, _, _⟩ => by
    refine (u.keep _ (by simp) fun e => ?_).trans hg0
    have := h.lt _ e; omega
  by_cases h1 : kd = 1
  · subst h1
    refine walk none0 ?_
    refine Wq.regionM [(0, 0), (1, 0), (2, 0), (3, 0), (4, 0), (5, 0), (6, 0), (7, 0), (8, 2), (9, 0), (10, 2), (11, 0), (12, 0), (13, 0)] (by kernel_rfl) ?_
    refine mwalk hg0 ?_
    refine (exitP_ok h0 hr hn pid n).mono fun w H1 _ ⟨⟨e, e1⟩, hP⟩ => ?_
    subst e1
    have hg1 := hgA hP
    refine mwalk (both hg0 hg1) ?_
    refine (refExitP_ok (hP.mid hlt hk hq m0) pid n).mono fun w H2 _ ⟨⟨e', e1⟩, u2⟩ => ?_
    subst e1
    refine mwalk hg0 ?_
    refine walk none0 ?_
    exact hP.fin k0 hlt hk hbl u2
  · by_cases h2 : kd = 2
    · subst h2
      refine walk hg0 ?_
      refine (waitP_ok h0 hn pid n).mono fun w H1 _ ⟨⟨a, c, e, e1⟩, hP⟩ => ?_
      subst e1
      have hg1 := hgA hP
      refine walk hg1 ?_
      refine (refWaitP_ok (hP.mid hlt hk hq m0) pid n).mono fun w H2 _ ⟨⟨a', c', e', e1⟩, u2⟩ => ?_
      subst e1
      have hfin := hP.fin k0 hlt hk hbl u2
      by_cases ha : a = a'
      · by_cases hc : c = c'
        · refine walk (both ha hc) ?_
          exact hfin
        · refine walk (both ha hc) ?_
          exact hfin
      · refine walk ha ?_
        exact hfin
    · by_cases h3 : kd = 3
      · subst h3
        refine walk hg0 ?_
        refine (reapP_ok h0 hn pid).mono fun w H1 _ ⟨⟨a, e, e1⟩, hP⟩ => ?_
        subst e1
        have hg1 := hgA hP
        refine walk hg1 ?_
        refine (refReapP_ok (hP.mid hlt hk hq m0) pid).mono fun w H2 _ ⟨⟨a', e', e1⟩, u2⟩ => ?_
        subst e1
        have hfin := hP.fin k0 hlt hk hbl u2
        by_cases ha : a = a'
        · refine walk ha ?_
          exact hfin
        · refine walk ha ?_
          exact hfin
      · by_cases h4 : kd = 4
        · subst h4
          refine walk none0 ?_
          refine Wq.regionM [(0, 0), (1, 0), (2, 0), (3, 0), (4, 0), (5, 0), (6, 2), (7, 0), (8, 0), (9, 0)] (by kernel_rfl) ?_
          refine mwalk hg0 ?_
          refine (enterP_ok h0 hr hn pid).mono fun w H1 _ ⟨⟨e, e1⟩, hP⟩ => ?_
          subst e1
          have hg1 := hgA hP
          refine mwalk (both hg0 hg1) ?_
          refine (refEnterP_ok (hP.mid hlt hk hq m0) pid).mono fun w H2 _ ⟨⟨e', e1⟩, u2⟩ => ?_
          subst e1
          refine mwalk hg0 ?_
          refine walk none0 ?_
          exact hP.fin k0 hlt hk hbl u2
        · by_cases h5 : kd = 5
          · subst h5
            refine walk hg0 ?_
            refine (moveP_ok h0 hr hn pid n).mono fun w H1 _ ⟨⟨a, e, e1⟩, hP⟩ => ?_
            subst e1
            have hg1 := hgA hP
            refine walk hg1 ?_
            refine (refMoveP_ok (hP.mid hlt hk hq m0) pid n).mono fun w H2 _ ⟨⟨a', e', e1⟩, u2⟩ => ?_
            subst e1
            have hfin := hP.fin k0 hlt hk hbl u2
            by_cases ha : a = a'
            · refine walk ha ?_
              exact hfin
            · refine walk ha ?_
              exact hfin
          · refine walk (both h1 (both h2 (both h3 (both h4 (both h5 hg0))))) ?_
            refine (forkP_ok h0 hr hn hnx pid _).mono fun w H1 _ ⟨⟨a, e, e1⟩, hP⟩ => ?_
            subst e1
            have hg1 := hgA hP
            refine walk hg1 ?_
            refine (refForkP_ok (hP.mid hlt hk hq m0) pid _).mono fun w H2 _ ⟨⟨a', e', e1⟩, u2⟩ => ?_
            subst e1
            have hfin := hP.fin k0 hlt hk hbl u2
            by_cases ha : a = a'
            · refine walk ha ?_
              exact hfin
            · refine walk ha ?_
              exact hfin
end Go.Abs

/- Chapter 14: what stays true, act by act. -/
namespace Go.Abs
open Go.Proofs
set_option maxRecDepth 100000
set_option linter.unusedVariables false
set_option linter.unusedSimpArgs false

structure InvP (l : List ProcT) (next most : Int) : Prop where
  rise : RiseP l
  ids : ∀ x ∈ l, 1 ≤ x.pid ∧ x.pid < next
  fit : (l.length : Int) ≤ most ∧ 1 ≤ most ∧ most ≤ 64
  nx : 2 ≤ next
  first : ∃ x0, l[0]? = some x0 ∧ x0.pid = 1 ∧ x0.parent = 0 ∧ x0.lives = true
  fam : ∀ x ∈ l, x.pid ≠ 1 → ∃ y ∈ l, y.pid = x.parent ∧ y.lives = true
theorem set_at {l : List ProcT} {i j : Nat} {x y z : ProcT} (hx : l[i]? = some x) (h : (l.set i y)[j]? = some z) : (j = i ∧ z = y) ∨ (j ≠ i ∧ l[j]? = some z) := by
  rw [List.getElem?_set] at h
  split at h
  · rename_i e
    subst e
    rw [if_pos (lt_of_get? hx)] at h
    injection h with h
    exact .inl ⟨rfl, h.symm⟩
  · rename_i e
    exact .inr ⟨fun e' => e e'.symm, h⟩
theorem repar_pid (p : Int) (c : ProcT) : (repar p c).pid = c.pid := by unfold repar; split <;> rfl
theorem repar_lives (p : Int) (c : ProcT) : (repar p c).lives = c.lives := by unfold repar; split <;> rfl
theorem repar_cap (p : Int) (c : ProcT) : (repar p c).cap = c.cap := by unfold repar; split <;> rfl
/-- What stands in the list behind an end. -/
theorem exit_at {l : List ProcT} {i j : Nat} {x x' z : ProcT} {pid : Int} (hx : l[i]? = some x) (h : ((l.set i x').map (repar pid))[j]? = some z) : ∃ y, l[j]? = some y ∧ ((j = i ∧ z = repar pid x') ∨ (j ≠ i ∧ z = repar pid y)) := by
  rw [List.getElem?_map] at h
  cases h1 : (l.set i x')[j]? with
  | none => rw [h1] at h; cases h
  | some w =>
    rw [h1] at h
    injection h with h
    rcases set_at hx h1 with ⟨rfl, rfl⟩ | ⟨hne, hw⟩
    · exact ⟨x, hx, .inl ⟨rfl, h.symm⟩⟩
    · exact ⟨w, hw, .inr ⟨hne, h.symm⟩⟩
theorem step_inv {l l' : List ProcT} {next next' most : Int} (g : InvP l next most) (s : StepP l next most l' next') : InvP l' next' most ∧ next ≤ next' ∧ next' ≤ next + 1 := by
  have hfit := g.fit
  have hnx := g.nx
  obtain ⟨x0, hx0, p0, q0, v0⟩ := g.first
  have hx0m := List.mem_of_getElem? hx0
  cases s with
  | same => exact ⟨g, by omega, by omega⟩
  | fork i x pd hx hl hm =>
    have hxm := List.mem_of_getElem? hx
    refine ⟨⟨fun a b u v hu hv hab => ?_, fun z hz => ?_, by rw [List.length_append]; simp; omega, by omega, ⟨x0, ?_, p0, q0, v0⟩, fun z hz hp => ?_⟩, by omega, by omega⟩
    · have hb := lt_of_get? hv
      rw [List.length_append] at hb
      simp at hb
      have ha : a < l.length := by omega
      rw [List.getElem?_append_left ha] at hu
      have hu1 := g.ids u (List.mem_of_getElem? hu)
      rcases Nat.lt_or_ge b l.length with h | h
      · rw [List.getElem?_append_left h] at hv
        exact g.rise _ _ _ _ hu hv hab
      · obtain rfl : b = l.length := by omega
        rw [List.getElem?_append_right (Nat.le_refl _), Nat.sub_self] at hv
        simp at hv; subst hv; exact hu1.2
    · rw [List.mem_append] at hz
      rcases hz with hz | hz
      · have := g.ids z hz; omega
      · simp at hz; subst hz; simp; omega
    · rw [List.getElem?_append_left (lt_of_get? hx0)]; exact hx0
    · rw [List.mem_append] at hz
      rcases hz with hz | hz
      · obtain ⟨y, hy, h1, h2⟩ := g.fam z hz hp
        exact ⟨y, List.mem_append_left _ hy, h1, h2⟩
      · simp at hz; subst hz
        exact ⟨x, List.mem_append_left _ hxm, rfl, hl⟩
  | exit i x code hx hl hp1 =>
    have hxm := List.mem_of_getElem? hx
    have hxi := g.ids x hxm
    have hi0 : i ≠ 0 := fun e => by subst e; rw [hx] at hx0; injection hx0 with e; subst e; exact hp1 p0
    have hin : ∀ (j : Nat) (y : ProcT), l[j]? = some y → j ≠ i → ((l.set i { x with lives := false, code := code, cwd := 0 }).map (repar x.pid))[j]? = some (repar x.pid y) := fun j y hy hne => by
      rw [List.getElem?_map, List.getElem?_set_ne (fun e => hne e.symm), hy]; rfl
    have hr0 : repar x.pid x0 = x0 := by unfold repar; rw [if_neg (by omega)]
    have h0' := hin 0 x0 hx0 (fun e => hi0 e.symm)
    rw [hr0] at h0'
    refine ⟨⟨fun a b u v hu hv hab => ?_, fun z hz => ?_, by rw [List.length_map, List.length_set]; exact hfit, hnx, ⟨x0, h0', p0, q0, v0⟩, fun z hz hp => ?_⟩, by omega, by omega⟩
    · obtain ⟨u', hu', eu⟩ := exit_at hx hu
      obtain ⟨v', hv', ev⟩ := exit_at hx hv
      have := g.rise a b u' v' hu' hv' hab
      have e1 : u.pid = u'.pid := by
        rcases eu with ⟨rfl, rfl⟩ | ⟨_, rfl⟩
        · rw [repar_pid]; rw [hx] at hu'; injection hu' with e; rw [← e]
        · rw [repar_pid]
      have e2 : v.pid = v'.pid := by
        rcases ev with ⟨rfl, rfl⟩ | ⟨_, rfl⟩
        · rw [repar_pid]; rw [hx] at hv'; injection hv' with e; rw [← e]
        · rw [repar_pid]
      omega
    · obtain ⟨j, hj⟩ := List.mem_iff_getElem?.1 hz
      obtain ⟨u', hu', eu⟩ := exit_at hx hj
      have e1 : z.pid = u'.pid := by
        rcases eu with ⟨rfl, rfl⟩ | ⟨_, rfl⟩
        · rw [repar_pid]; rw [hx] at hu'; injection hu' with e; rw [← e]
        · rw [repar_pid]
      rw [e1]; exact g.ids u' (List.mem_of_getElem? hu')
    · obtain ⟨j, hj⟩ := List.mem_iff_getElem?.1 hz
      obtain ⟨y, hy, eu⟩ := exit_at hx hj
      have hym := List.mem_of_getElem? hy
      have e1 : z.pid = y.pid ∧ z.parent = if y.parent = x.pid then 1 else y.parent := by
        rcases eu with ⟨rfl, rfl⟩ | ⟨_, rfl⟩
        · rw [hx] at hy; injection hy with e; subst e
          rw [repar_pid]
          refine ⟨rfl, ?_⟩
          unfold repar
          split <;> rfl
        · rw [repar_pid]
          refine ⟨rfl, ?_⟩
          unfold repar
          split <;> rfl
      by_cases hyp : y.parent = x.pid
      · rw [if_pos hyp] at e1
        exact ⟨x0, List.mem_of_getElem? h0', by rw [p0, e1.2], v0⟩
      · rw [if_neg hyp] at e1
        obtain ⟨w, hw, w1, w2⟩ := g.fam y hym (by rw [← e1.1]; exact hp)
        obtain ⟨jw, hjw⟩ := List.mem_iff_getElem?.1 hw
        have hne : jw ≠ i := fun e => by subst e; rw [hx] at hjw; injection hjw with e; subst e; exact hyp w1.symm
        exact ⟨_, List.mem_of_getElem? (hin jw w hjw hne), by rw [repar_pid, w1, e1.2], by rw [repar_lives]; exact w2⟩
  | gone i x hx hl =>
    have hi0 : i ≠ 0 := fun e => by subst e; rw [hx] at hx0; injection hx0 with e; subst e; rw [hl] at v0; cases v0
    have hlen : (l.eraseIdx i).length ≤ l.length := List.length_eraseIdx_le l i
    refine ⟨⟨fun a b u v hu hv hab => ?_, fun z hz => g.ids z (erase_mem hz), by omega, hnx, ⟨x0, ?_, p0, q0, v0⟩, fun z hz hp => ?_⟩, by omega, by omega⟩
    · rw [List.getElem?_eraseIdx] at hu hv
      split at hu <;> split at hv
      · exact g.rise _ _ _ _ hu hv hab
      · exact g.rise _ _ _ _ hu hv (by omega)
      · exact g.rise _ _ _ _ hu hv (by omega)
      · exact g.rise _ _ _ _ hu hv (by omega)
    · rw [List.getElem?_eraseIdx, if_pos (by omega)]; exact hx0
    · obtain ⟨w, hw, w1, w2⟩ := g.fam z (erase_mem hz) hp
      obtain ⟨jw, hjw⟩ := List.mem_iff_getElem?.1 hw
      have hne : jw ≠ i := fun e => by subst e; rw [hx] at hjw; injection hjw with e; subst e; rw [hl] at w2; cases w2
      exact ⟨w, List.mem_eraseIdx_iff_getElem?.2 ⟨jw, hne, hjw⟩, w1, w2⟩
  | upd i x y hx h1 h2 h3 h4 =>
    have hxm := List.mem_of_getElem? hx
    have hat : ∀ (j : Nat) (z : ProcT), (l.set i y)[j]? = some z → ∃ z', l[j]? = some z' ∧ z.pid = z'.pid ∧ z.parent = z'.parent ∧ z.lives = z'.lives := fun j z hz => by
      rcases set_at hx hz with ⟨rfl, rfl⟩ | ⟨_, hz⟩
      · exact ⟨x, hx, h1, h2, h3⟩
      · exact ⟨z, hz, rfl, rfl, rfl⟩
    have hto : ∀ (j : Nat) (z : ProcT), l[j]? = some z → ∃ z', (l.set i y)[j]? = some z' ∧ z'.pid = z.pid ∧ z'.parent = z.parent ∧ z'.lives = z.lives := fun j z hz => by
      by_cases hj : i = j
      · subst hj
        rw [hx] at hz; injection hz with hz; subst hz
        exact ⟨y, List.getElem?_set_self (lt_of_get? hx), h1, h2, h3⟩
      · exact ⟨z, by rw [List.getElem?_set_ne hj]; exact hz, rfl, rfl, rfl⟩
    refine ⟨⟨fun a b u v hu hv hab => ?_, fun z hz => ?_, by rw [List.length_set]; exact hfit, hnx, ?_, fun z hz hp => ?_⟩, by omega, by omega⟩
    · obtain ⟨u', hu', e1, _⟩ := hat a u hu
      obtain ⟨v', hv', e2, _⟩ := hat b v hv
      have := g.rise a b u' v' hu' hv' hab; omega
    · obtain ⟨j, hj⟩ := List.mem_iff_getElem?.1 hz
      obtain ⟨u', hu', e1, _⟩ := hat j z hj
      rw [e1]; exact g.ids u' (List.mem_of_getElem? hu')
    · obtain ⟨z', hz', e1, e2, e3⟩ := hto 0 x0 hx0
      exact ⟨z', hz', by rw [e1, p0], by rw [e2, q0], by rw [e3, v0]⟩
    · obtain ⟨j, hj⟩ := List.mem_iff_getElem?.1 hz
      obtain ⟨u', hu', e1, e2, _⟩ := hat j z hj
      obtain ⟨w, hw, w1, w2⟩ := g.fam u' (List.mem_of_getElem? hu') (by rw [← e1]; exact hp)
      obtain ⟨jw, hjw⟩ := List.mem_iff_getElem?.1 hw
      obtain ⟨w', hw', f1, _, f3⟩ := hto jw w hjw
      exact ⟨w', List.mem_of_getElem? hw', by rw [f1, w1, e2], by rw [f3, w2]⟩
def CapOK (l l' : List ProcT) : Prop := ∀ x ∈ l, ∀ y ∈ l', x.pid = y.pid → x.cap = true → y.cap = true
def LastOK (l l' : List ProcT) : Prop := l.length < l'.length → ∃ c, l'[l'.length - 1]? = some c ∧ ∀ y ∈ l', y.pid = c.parent → y.cap = true → c.cap = true
theorem step_cap {l l' : List ProcT} {next next' most : Int} (g : InvP l next most) (s : StepP l next most l' next') : CapOK l l' ∧ LastOK l l' := by
  have hself : ∀ x ∈ l, ∀ y ∈ l, x.pid = y.pid → x = y := fun x hx y hy e => by
    obtain ⟨i, hi⟩ := List.mem_iff_getElem?.1 hx
    obtain ⟨j, hj⟩ := List.mem_iff_getElem?.1 hy
    obtain rfl := riseP_eq g.rise hi hj e
    rw [hi] at hj; injection hj
  cases s with
  | same => exact ⟨fun x hx y hy e hc => by rw [← hself x hx y hy e]; exact hc, fun h => absurd h (Nat.lt_irrefl _)⟩
  | fork i x pd hx hl hm =>
    have hxm := List.mem_of_getElem? hx
    have hxi := g.ids x hxm
    refine ⟨fun z hz y hy e hc => ?_, fun _ => ⟨_, by rw [List.length_append]; simp; rfl, fun y hy e hc => ?_⟩⟩
    · rw [List.mem_append] at hy
      rcases hy with hy | hy
      · rw [← hself z hz y hy e]; exact hc
      · simp at hy; subst hy
        have := g.ids z hz; simp at e; omega
    · rw [List.mem_append] at hy
      rcases hy with hy | hy
      · have := hself y hy x hxm e
        subst this; exact hc
      · simp at hy; subst hy
        simp at e; omega
  | exit i x code hx hl hp1 =>
    refine ⟨fun z hz y hy e hc => ?_, fun h => by rw [List.length_map, List.length_set] at h; omega⟩
    obtain ⟨j, hj⟩ := List.mem_iff_getElem?.1 hy
    obtain ⟨u, hu, eu⟩ := exit_at hx hj
    have hum := List.mem_of_getElem? hu
    have e1 : y.pid = u.pid ∧ y.cap = u.cap := by
      rcases eu with ⟨rfl, rfl⟩ | ⟨_, rfl⟩
      · rw [repar_pid, repar_cap]; rw [hx] at hu; injection hu with e; subst e; exact ⟨rfl, rfl⟩
      · rw [repar_pid, repar_cap]; exact ⟨rfl, rfl⟩
    rw [e1.2, ← hself z hz u hum (by omega)]
    exact hc
  | gone i x hx hl =>
    exact ⟨fun z hz y hy e hc => by rw [← hself z hz y (erase_mem hy) e]; exact hc, fun h => by have : (l.eraseIdx i).length ≤ l.length := List.length_eraseIdx_le l i; omega⟩
  | upd i x y hx h1 h2 h3 h4 =>
    refine ⟨fun z hz w hw e hc => ?_, fun h => by rw [List.length_set] at h; omega⟩
    obtain ⟨j, hj⟩ := List.mem_iff_getElem?.1 hw
    rcases set_at hx hj with ⟨rfl, rfl⟩ | ⟨_, hw'⟩
    · have := hself z hz x (List.mem_of_getElem? hx) (by omega)
      subst this; exact h4 hc
    · rw [← hself z hz w (List.mem_of_getElem? hw') e]; exact hc
end Go.Abs

/- Chapter 14: New, Dump, Get and what is told of no table, walked. -/
namespace Go.Abs
open Go.Proofs
set_option maxRecDepth 100000
set_option linter.unusedVariables false
set_option linter.unusedSimpArgs false

def proc1 : ProcT := ⟨1, 0, true, 0, false, false, 1⟩
theorem inv_new {most : Int} (h : 1 ≤ most ∧ most ≤ 64) : InvP [proc1] 2 most := by
  refine ⟨fun i j x y hx hy hij => ?_, fun x hx => ?_, by simp; omega, by omega, ⟨proc1, rfl, rfl, rfl, rfl⟩, fun x hx hp => ?_⟩
  · have := lt_of_get? hy; simp at this; omega
  · simp at hx; subst hx; decide
  · simp at hx; subst hx; exact absurd rfl hp
theorem newP_ok (most : Int) (h1 : 1 ≤ most) (h2 : most ≤ 64) (H : Heap) : Cl Try.prog pr14 6 [.int .i64 most] H fun w H' => ∃ p slv ps, w = .ptr (some (p, 0)) ∧ TabP H' p slv ps [proc1] 2 most ∧ (∀ z, foot p slv ps z → H.next ≤ z) ∧ Keep H H' := by
  refine Cl.enter Try.func6 rfl rfl Try.ntmps6 (by simp) ?_
  refine walk none0 ?_
  have e1 : (((H.push (.cells (encP proc1) 33 true false)).push (.cells [.ptr (some (H.next, 0))] 51 true false)).push (.cells [.slice (some (H.next + 1, 0)) 1 1 none, .int .i64 2, .int .i64 most] 54 true false)).get (H.next + 2) = some (.cells [.slice (some (H.next + 1, 0)) 1 1 none, .int .i64 2, .int .i64 most] 54 true false) := by rw [Heap.get_push, if_pos (by simp)]
  have e2 : (((H.push (.cells (encP proc1) 33 true false)).push (.cells [.ptr (some (H.next, 0))] 51 true false)).push (.cells [.slice (some (H.next + 1, 0)) 1 1 none, .int .i64 2, .int .i64 most] 54 true false)).get (H.next + 1) = some (.cells [.ptr (some (H.next, 0))] 51 true false) := by rw [Heap.get_push, if_neg (by simp), Heap.get_push, if_pos (by simp)]
  have e3 : (((H.push (.cells (encP proc1) 33 true false)).push (.cells [.ptr (some (H.next, 0))] 51 true false)).push (.cells [.slice (some (H.next + 1, 0)) 1 1 none, .int .i64 2, .int .i64 most] 54 true false)).get H.next = some (.cells (encP proc1) 33 true false) := by rw [Heap.get_push, if_neg (by simp; omega), Heap.get_push, if_neg (by simp), Heap.get_push, if_pos (by simp)]
  refine ⟨H.next + 2, .slice (some (H.next + 1, 0)) 1 1 none, [H.next], rfl, ⟨e1, OwnG.of (OwnSl.mk (by rfl) (by simp) e2), rfl, fun i b x hb hx => ?_, by simp, fun z hz => ?_, by simp [slBlock], by simp, fun z hz => by simp at hz; subst hz; simp [slBlock]⟩, fun z hz => ?_, ((Upd.rfl.push _).push _).push _⟩
  · have hi := lt_of_get? hb
    simp at hi; subst hi
    simp at hb hx
    subst hb; subst hx
    exact e3
  · rcases hz with e | e | e
    · simp; omega
    · simp [slBlock] at e; simp; omega
    · simp at e; simp; omega
  · rcases hz with e | e | e
    · omega
    · simp [slBlock] at e; omega
    · simp at e; omega
theorem newP_nil (most : Int) (h : most < 1 ∨ 64 < most) (H : Heap) : Cl Try.prog pr14 6 [.int .i64 most] H fun w H' => w = .ptr none ∧ H' = H := by
  refine Cl.enter Try.func6 rfl rfl Try.ntmps6 (by simp) ?_
  by_cases h1 : most < 1
  · refine walk h1 ?_
    exact ⟨rfl, rfl⟩
  · have h2 : 64 < most := by omega
    refine walk (both h1 h2) ?_
    exact ⟨rfl, rfl⟩
theorem flatP_one (l : List ProcT) : (flat encP l).all AV.one = true := by
  rw [List.all_eq_true]
  intro x hx
  simp only [flat, List.mem_flatMap] at hx
  obtain ⟨y, _, hy⟩ := hx
  simp [encP] at hy
  rcases hy with rfl | rfl | rfl | rfl | rfl | rfl | rfl <;> rfl
theorem dumpP_ok {H : Heap} {p : Nat} {slv : AV} {ps : List Nat} {l : List ProcT} {next most : Int} (h : TabP H p slv ps l next most) (hn : l.length ≤ 1000) :
    Cl Try.prog pr14 9 [.ptr (some (p, 0))] H fun w H' => Fresh H H' 33 7 w l.length (flat encP l) := by
  have ht := h.t
  obtain ⟨a, cap, ex, e0, hc, hex⟩ := h.own.form
  subst e0
  refine Cl.enter Try.func9 rfl rfl Try.ntmps9 (by simp) ?_
  refine walk ht ?_
  refine Wq.loop (fun m e H' => ∃ (i : Nat) (w : AV), i ≤ l.length ∧ m = l.length - i ∧ e 3 = w ∧ e 11 = .slice a l.length cap ex ∧ e 12 = .int .i64 l.length ∧ e 13 = .int .i64 i ∧ Fresh H H' 33 7 w i (flat encP (l.take i))) l.length ?_ ?_
  · exact ⟨0, _, by omega, by omega, by simp, by simp, by simp, by simp, Fresh.nil Upd.rfl⟩
  · rintro m e H' ⟨i, w, hi, rfl, g3, g11, g12, g13, hF⟩
    have hT := h.kept hF.keep
    by_cases hlt : i < l.length
    · obtain ⟨x, hx⟩ := get_lt hlt
      obtain ⟨b, hb⟩ := get_lt (l := ps) (i := i) (by have := h.len; omega)
      have hpb := hT.procs i b x hb hx
      unfold encP at hpb
      obtain ⟨sb, o, c, rfl, hs1, hs2, hs3, hs4, hs5⟩ := ptr_at hT.own hlt hb
      obtain ⟨wa, wx, rfl, _⟩ := hF.own.form
      refine walk (both g3 (both g11 (both g12 (both g13 (both hlt (both hs2 (both hs5 hpb))))))) ?_
      refine Oq.append (own := (hF.push _).own) (new := (encP x)) (m := 1) (by simp (disch := omega) [encP, g3, -getElem?_pos, wrapI64, tdivN, tmodN, ipos, ineg, dpos, dneg, slc_l, slc_h, slc_lh, slc_hm, slc_lhm, slc_0, slcR_some, slcR_none, cutS_ok, cutA_ok, byteAt_ok]; first | done | (repeat' (first | rfl | apply And.intro))) ⟨_, rfl, by simp; first | done | (repeat' (first | rfl | apply And.intro))⟩ rfl (by kernel_rfl) (by kernel_rfl) (by refine ⟨by simp, ?_⟩; simp (disch := omega) [srcCells, cellsAt, encP, g3, -getElem?_pos, wrapI64, tdivN, tmodN, ipos, ineg, dpos, dneg, slc_l, slc_h, slc_lh, slc_hm, slc_lhm, slc_0, slcR_some, slcR_none, cutS_ok, cutA_ok, byteAt_ok]; first | done | rfl) rfl rfl (by omega) (by omega) fun v1 H2 o1 b1 s1 => ?_
      obtain ⟨va, vx, rfl, _⟩ := o1.form
      refine walk (both g3 (both g11 (both g12 g13))) ?_
      have hfl : flat encP (l.take (i + 1)) = flat encP (l.take i) ++ encP x := by
        rw [List.take_add_one, hx, flat_app]
        simp [flat]
      refine Roundq.normal (l.length - (i + 1)) (by omega) ⟨i + 1, _, by omega, rfl, by simp; rfl, by simp [g11], by simp [g12], by simp, ?_⟩
      rw [hfl]
      exact (hF.push _).app o1 b1 s1
    · have hend : i = l.length := by omega
      subst hend
      rw [List.take_of_length_le (Nat.le_refl _)] at hF
      obtain ⟨wa, wx, rfl, _⟩ := hF.own.form
      refine walk (both g3 (both g11 (both g12 (both g13 hlt)))) ?_
      exact hF
theorem getP_ok {H : Heap} {p : Nat} {slv : AV} {ps : List Nat} {l : List ProcT} {next most : Int} (h : TabP H p slv ps l next most) (hn : l.length ≤ 1000) (pid : Int) :
    Cl Try.prog pr14 12 [.ptr (some (p, 0)), .int .i64 pid] H fun w H' => (∃ x t, w = .tuple [.agg (encP x), .bool t] ∧ ((t = true ∧ x ∈ l ∧ x.pid = pid) ∨ (t = false ∧ x.cap = false))) ∧ Keep H H' := by
  refine Cl.enter Try.func12 rfl rfl Try.ntmps12 (by simp) ?_
  refine walk none0 ?_
  have k0 : Keep H (H.push (.cells [.int .i64 0, .int .i64 0, .bool false, .int .i64 0, .bool false, .bool false, .int .i64 0] 33 true false)) := Upd.rfl.push _
  have h0 := h.kept k0
  refine (findP_ok h0 hn pid).mono fun w H1 _ ⟨e1, e2⟩ => ?_
  subst e2
  rcases e1 with ⟨i, x, b, hx, hp, hb, rfl⟩ | ⟨hno, rfl⟩
  · have hpb := h0.procs i b x hb hx
    unfold encP at hpb
    refine walk hpb ?_
    exact ⟨⟨x, true, rfl, .inl ⟨rfl, List.mem_of_getElem? hx, hp⟩⟩, k0.set _ (by simp) (by simp)⟩
  · refine walk none0 ?_
    exact ⟨⟨⟨0, 0, false, 0, false, false, 0⟩, false, rfl, .inr ⟨rfl, rfl⟩⟩, k0.set _ (by simp) (by simp)⟩
theorem getP_nil (pid : Int) (H : Heap) : Cl Try.prog pr14 12 [.ptr none, .int .i64 pid] H fun w H' => (∃ x, w = .tuple [.agg (encP x), .bool false]) ∧ Keep H H' := by
  refine Cl.enter Try.func12 rfl rfl Try.ntmps12 (by simp) ?_
  refine walk none0 ?_
  refine (find_nil pid _).mono fun w H1 _ ⟨e1, e2⟩ => ?_
  subst e1; subst e2
  refine walk none0 ?_
  exact ⟨⟨⟨0, 0, false, 0, false, false, 0⟩, rfl⟩, (Upd.rfl.push _).set _ (by simp) (by simp)⟩
theorem roomP_ok {H : Heap} {p : Nat} {slv : AV} {ps : List Nat} {l : List ProcT} {next most : Int} (h : TabP H p slv ps l next most) (hn : l.length ≤ 1000) (hm : 0 ≤ most ∧ most ≤ 1000) :
    Cl Try.prog pr14 13 [.ptr (some (p, 0))] H fun w H' => w = .int .i64 (most - l.length) ∧ H' = H := by
  have ht := h.t
  obtain ⟨a, cap, ex, e0, hc, hex⟩ := h.own.form
  subst e0
  refine Cl.enter Try.func13 rfl rfl Try.ntmps13 (by simp) ?_
  refine walk ht ?_
  refine Wq.regionD [0, 1, 2, 3, 4, 5, 6, 7, 8, 9, 10] (by kernel_rfl) ?_
  refine walk ht ?_
  exact ⟨rfl, rfl⟩
theorem numbersP_ok {H : Heap} {p : Nat} {slv : AV} {ps : List Nat} {l : List ProcT} {next most : Int} (h : TabP H p slv ps l next most) :
    Cl Try.prog pr14 14 [.ptr (some (p, 0))] H fun w H' => w = .int .i64 next ∧ H' = H := by
  have ht := h.t
  refine Cl.enter Try.func14 rfl rfl Try.ntmps14 (by simp) ?_
  refine walk ht ?_
  exact ⟨rfl, rfl⟩
theorem roomP_nil (H : Heap) : Cl Try.prog pr14 13 [.ptr none] H fun w H' => w = .int .i64 0 ∧ H' = H := by
  refine Cl.enter Try.func13 rfl rfl Try.ntmps13 (by simp) ?_
  refine walk none0 ?_
  exact ⟨rfl, rfl⟩
theorem numbersP_nil (H : Heap) : Cl Try.prog pr14 14 [.ptr none] H fun w H' => w = .int .i64 0 ∧ H' = H := by
  refine Cl.enter Try.func14 rfl rfl Try.ntmps14 (by simp) ?_
  refine walk none0 ?_
  exact ⟨rfl, rfl⟩
theorem dumpP_nil (H : Heap) : Cl Try.prog pr14 9 [.ptr none] H fun w H' => (∃ a c ex, w = .slice a 0 c ex) ∧ H' = H := by
  refine Cl.enter Try.func9 rfl rfl Try.ntmps9 (by simp) ?_
  refine walk none0 ?_
  exact ⟨⟨_, _, _, rfl⟩, rfl⟩
theorem forkP_nil (pid : Int) (pd : Bool) (H : Heap) : Cl Try.prog pr14 15 [.ptr none, .int .i64 pid, .bool pd] H fun w H' => w = .tuple [.int .i64 0, .int .i64 3] ∧ H' = H := by
  refine Cl.enter Try.func15 rfl rfl Try.ntmps15 (by simp) ?_
  refine walk none0 ?_
  refine (alive_nil pid H).mono fun w H1 _ ⟨e1, e2⟩ => ?_
  subst e1; subst e2
  refine walk none0 ?_
  exact ⟨rfl, rfl⟩
theorem waitP_nil (pid which : Int) (H : Heap) : Cl Try.prog pr14 16 [.ptr none, .int .i64 pid, .int .i64 which] H fun w H' => w = .tuple [.int .i64 0, .int .i64 0, .int .i64 3] ∧ H' = H := by
  refine Cl.enter Try.func16 rfl rfl Try.ntmps16 (by simp) ?_
  refine walk none0 ?_
  exact ⟨rfl, rfl⟩
theorem reapP_nil (pid : Int) (H : Heap) : Cl Try.prog pr14 17 [.ptr none, .int .i64 pid] H fun w H' => w = .tuple [.int .i64 0, .int .i64 3] ∧ H' = H := by
  refine Cl.enter Try.func17 rfl rfl Try.ntmps17 (by simp) ?_
  refine walk none0 ?_
  refine (find_nil pid H).mono fun w H1 _ ⟨e1, e2⟩ => ?_
  subst e1; subst e2
  refine walk none0 ?_
  exact ⟨rfl, rfl⟩
theorem moveP_nil (pid dir : Int) (H : Heap) : Cl Try.prog pr14 18 [.ptr none, .int .i64 pid, .int .i64 dir] H fun w H' => w = .tuple [.int .i64 0, .int .i64 3] ∧ H' = H := by
  refine Cl.enter Try.func18 rfl rfl Try.ntmps18 (by simp) ?_
  refine walk none0 ?_
  refine (alive_nil pid H).mono fun w H1 _ ⟨e1, e2⟩ => ?_
  subst e1; subst e2
  refine walk none0 ?_
  exact ⟨rfl, rfl⟩
theorem exitP_nil (pid code : Int) (H : Heap) : Cl Try.prog pr14 19 [.ptr none, .int .i64 pid, .int .i64 code] H fun w H' => w = .int .i64 3 ∧ H' = H := by
  refine Cl.enter Try.func19 rfl rfl Try.ntmps19 (by simp) ?_
  refine walk none0 ?_
  refine (alive_nil pid H).mono fun w H1 _ ⟨e1, e2⟩ => ?_
  subst e1; subst e2
  refine walk none0 ?_
  exact ⟨rfl, rfl⟩
theorem enterP_nil (pid : Int) (H : Heap) : Cl Try.prog pr14 20 [.ptr none, .int .i64 pid] H fun w H' => w = .int .i64 3 ∧ H' = H := by
  refine Cl.enter Try.func20 rfl rfl Try.ntmps20 (by simp) ?_
  refine walk none0 ?_
  refine (alive_nil pid H).mono fun w H1 _ ⟨e1, e2⟩ => ?_
  subst e1; subst e2
  refine walk none0 ?_
  exact ⟨rfl, rfl⟩
end Go.Abs

/- Chapter 14: ProcsNews, ProcsFamily, walked. -/
namespace Go.Abs
open Go.Proofs
set_option maxRecDepth 100000
set_option linter.unusedVariables false
set_option linter.unusedSimpArgs false

structure ActI where
  k : Int
  id : Int
  a : Int
def encA (x : ActI) : List AV := [.int .i64 x.k, .int .i64 x.id, .int .i64 x.a]
def ActL (H : Heap) (v : AV) (l : List ActI) : Prop := ∃ c, Sl H 3 v l.length c ∧ (∀ z, slBlock v = some z → z < H.next) ∧ l.length ≤ maxLen ∧ ∀ i x, l[i]? = some x → (c.drop (i * 3)).take 3 = encA x
theorem ActL.upd {H H' : Heap} {v : AV} {l : List ActI} {fp : Nat → Prop} (h : ActL H v l) (u : Upd fp H H') (hd : ∀ z, z < H.next → ¬ fp z) : ActL H' v l := by
  obtain ⟨c, h1, h2, h3⟩ := h
  exact ⟨c, h1.upd u fun z hz _ => hd z (h2 z hz), fun z hz => by have := h2 z hz; have := u.next; omega, h3⟩
theorem ActL.form {H : Heap} {v : AV} {l : List ActI} (h : ActL H v l) : ∃ a cap ex, v = .slice a l.length cap ex ∧ l.length ≤ maxLen := by
  obtain ⟨c, h1, h2, h3, h4⟩ := h
  obtain ⟨a, cap, ex, rfl, _⟩ := h1.form
  exact ⟨a, cap, ex, rfl, h3⟩
theorem ActL.at {H : Heap} {a : Option (Nat × Nat)} {cap : Nat} {ex : Option Nat} {l : List ActI} {i : Nat} {x : ActI} (h : ActL H (.slice a l.length cap ex) l) (hx : l[i]? = some x) :
    ∃ b o c t w m, a = some (b, o) ∧ b < H.next ∧ H.get b = some (.cells c t w m) ∧ o + i * 3 + 3 ≤ c.length ∧ (c.drop (o + i * 3)).take 3 = [.int .i64 x.k, .int .i64 x.id, .int .i64 x.a] := by
  obtain ⟨c, h1, h2, h3, h4⟩ := h
  have hi := lt_of_get? hx
  obtain ⟨b, o, c', t, w, m, rfl, g1, g2, g3, g4⟩ := h1.at (by omega)
  refine ⟨b, o, c', t, w, m, rfl, g1, g2, by omega, ?_⟩
  rw [sub_take g4 (by omega)]
  exact h4 i x hx
theorem acti_of {H : Heap} {cs : List AV} (h : Pic Try.prog H 3 29 cs) : ∃ x : ActI, cs = encA x := by
  unfold Pic at h
  simp only [Try.underlying29] at h
  obtain ⟨hl, hf⟩ := h
  have c3 : Try.prog.cellsOf 3 = 1 := by kernel_rfl
  have c29 : Try.prog.cellsOf 29 = 3 := by kernel_rfl
  rw [c29] at hl
  match cs, hl with
  | [a, b, c], _ =>
    simp [c3] at hf
    obtain ⟨h0, h1, h2⟩ := hf
    obtain ⟨k, e0, w0⟩ := pic_int (k := .i64) Try.underlying3 h0
    obtain ⟨p, e1, w1⟩ := pic_int (k := .i64) Try.underlying3 h1
    obtain ⟨q, e2, w2⟩ := pic_int (k := .i64) Try.underlying3 h2
    simp at e0 e1 e2
    subst e0; subst e1; subst e2
    exact ⟨⟨k, p, q⟩, rfl⟩
theorem actl_of {H : Heap} {v : AV} (h : Pic Try.prog H 4 22 [v]) : ∃ l, ActL H v l := by
  obtain ⟨len, c, h1, h2, h3, h4⟩ := pic_slice (s := 3) Try.underlying22 (by kernel_rfl) h
  obtain ⟨l, hl, hp⟩ := list_of fun i hi => acti_of (h4 i hi)
  exact ⟨l, c, by rw [hl]; exact h1, h3, by omega, hp⟩
theorem livesC_ok (H : Heap) : Cl Try.prog pr14 11 [] H fun v H' => v = .bool true ∧ H' = H := Cl.prim (v := .bool true) (H' := H) rfl rfl ⟨rfl, rfl⟩
theorem proc_at {H : Heap} {a : Option (Nat × Nat)} {cap : Nat} {ex : Option Nat} {l : List ProcT} {i : Nat} {x : ProcT} (h : Sl H 7 (.slice a l.length cap ex) l.length (flat encP l)) (hx : l[i]? = some x) :
    ∃ b o c t w m, a = some (b, o) ∧ b < H.next ∧ H.get b = some (.cells c t w m) ∧ o + i * 7 + 7 ≤ c.length ∧ (c.drop (o + i * 7)).take 7 = encP x ∧ c[o + i * 7]? = some (.int .i64 x.pid) ∧ c[o + i * 7 + 1]? = some (.int .i64 x.parent) ∧ c[o + i * 7 + 2]? = some (.bool x.lives) ∧ c[o + i * 7 + 5]? = some (.bool x.cap) := by
  have hi := lt_of_get? hx
  obtain ⟨b, o, c, t, w, m, rfl, h1, h2, h3, h4⟩ := h.at (by omega)
  have hd : (c.drop (o + i * 7)).take 7 = encP x := by rw [sub_take h4 (by omega)]; exact flat_take encP_len hx
  refine ⟨b, o, c, t, w, m, rfl, h1, h2, by omega, hd, ?_, ?_, ?_, ?_⟩
  · have := sub_get (i := 0) hd (by omega); simpa [encP] using this
  · have := sub_get (i := 1) hd (by omega); simpa [encP] using this
  · have := sub_get (i := 2) hd (by omega); simpa [encP] using this
  · have := sub_get (i := 5) hd (by omega); simpa [encP] using this
set_option maxHeartbeats 4000000 in
theorem procsNews_main (most pid : Int) (H : Heap) (hm : In64 most) : Cl Try.prog pr14 5 [.int .i64 most, .int .i64 pid] H fun v _ => v = .bool true := by
  by_cases h : 1 ≤ most ∧ most ≤ 64
  · refine Cl.enter Try.func5 rfl rfl Try.ntmps5 (by simp) ?_
    refine walk none0 ?_
    refine (newP_ok most h.1 h.2 H).mono fun w H1 _ ⟨p, slv, ps, e, hT, hlo, hk⟩ => ?_
    subst e
    refine walk none0 ?_
    refine (roomP_ok hT (by simp) (by omega)).mono fun w H2 _ ⟨e1, e2⟩ => ?_
    subst e1; subst e2
    simp only [List.length_singleton]
    refine walk none0 ?_
    refine (numbersP_ok hT).mono fun w H2 _ ⟨e1, e2⟩ => ?_
    subst e1; subst e2
    refine walk none0 ?_
    refine (dumpP_ok hT (by simp)).mono fun w H3 _ hF => ?_
    obtain ⟨da, dx, rfl, _⟩ := hF.own.form
    simp only [List.length_singleton]
    refine walk none0 ?_
    refine (livesC_ok _).mono fun w H5 _ ⟨e1, e2⟩ => ?_
    subst e1; subst e2
    refine walk none0 ?_
    exact rfl
  · refine Cl.enter Try.func5 rfl rfl Try.ntmps5 (by simp) ?_
    refine walk none0 ?_
    refine (newP_nil most (by omega) H).mono fun w H1 _ ⟨e1, e2⟩ => ?_
    subst e1; subst e2
    by_cases h1 : 1 ≤ most
    · have h2 : ¬ most ≤ 64 := by omega
      refine walk (both h1 h2) ?_
      refine (getP_nil pid _).mono fun w H3 _ ⟨⟨x, e1⟩, k3⟩ => ?_
      subst e1
      refine walk none0 ?_
      refine (forkP_nil pid false _).mono fun w H2 _ ⟨e1, e2⟩ => ?_
      subst e1; subst e2
      refine walk none0 ?_
      refine (waitP_nil pid 0 _).mono fun w H4 _ ⟨e1, e2⟩ => ?_
      subst e1; subst e2
      refine walk none0 ?_
      refine (reapP_nil pid _).mono fun w H5 _ ⟨e1, e2⟩ => ?_
      subst e1; subst e2
      refine walk none0 ?_
      refine (moveP_nil pid 1 _).mono fun w H6 _ ⟨e1, e2⟩ => ?_
      subst e1; subst e2
      refine walk none0 ?_
      refine (exitP_nil pid 0 _).mono fun w H6 _ ⟨e1, e2⟩ => ?_
      subst e1; subst e2
      refine walk none0 ?_
      refine (enterP_nil pid _).mono fun w H7 _ ⟨e1, e2⟩ => ?_
      subst e1; subst e2
      refine walk none0 ?_
      refine (lives_nil pid _).mono fun w H7 _ ⟨e1, e2⟩ => ?_
      subst e1; subst e2
      refine walk none0 ?_
      refine (roomP_nil _).mono fun w H8 _ ⟨e1, e2⟩ => ?_
      subst e1; subst e2
      refine walk none0 ?_
      refine (numbersP_nil _).mono fun w H9 _ ⟨e1, e2⟩ => ?_
      subst e1; subst e2
      refine walk none0 ?_
      refine (dumpP_nil _).mono fun w H10 _ ⟨⟨da, dc, dx, e1⟩, e2⟩ => ?_
      subst e1; subst e2
      refine walk none0 ?_
      refine (livesC_ok _).mono fun w H11 _ ⟨e1, e2⟩ => ?_
      subst e1; subst e2
      refine walk none0 ?_
      exact rfl
    · refine walk h1 ?_
      refine (getP_nil pid _).mono fun w H3 _ ⟨⟨x, e1⟩, k3⟩ => ?_
      subst e1
      refine walk none0 ?_
      refine (forkP_nil pid false _).mono fun w H2 _ ⟨e1, e2⟩ => ?_
      subst e1; subst e2
      refine walk none0 ?_
      refine (waitP_nil pid 0 _).mono fun w H4 _ ⟨e1, e2⟩ => ?_
      subst e1; subst e2
      refine walk none0 ?_
      refine (reapP_nil pid _).mono fun w H5 _ ⟨e1, e2⟩ => ?_
      subst e1; subst e2
      refine walk none0 ?_
      refine (moveP_nil pid 1 _).mono fun w H6 _ ⟨e1, e2⟩ => ?_
      subst e1; subst e2
      refine walk none0 ?_
      refine (exitP_nil pid 0 _).mono fun w H6 _ ⟨e1, e2⟩ => ?_
      subst e1; subst e2
      refine walk none0 ?_
      refine (enterP_nil pid _).mono fun w H7 _ ⟨e1, e2⟩ => ?_
      subst e1; subst e2
      refine walk none0 ?_
      refine (lives_nil pid _).mono fun w H7 _ ⟨e1, e2⟩ => ?_
      subst e1; subst e2
      refine walk none0 ?_
      refine (roomP_nil _).mono fun w H8 _ ⟨e1, e2⟩ => ?_
      subst e1; subst e2
      refine walk none0 ?_
      refine (numbersP_nil _).mono fun w H9 _ ⟨e1, e2⟩ => ?_
      subst e1; subst e2
      refine walk none0 ?_
      refine (dumpP_nil _).mono fun w H10 _ ⟨⟨da, dc, dx, e1⟩, e2⟩ => ?_
      subst e1; subst e2
      refine walk none0 ?_
      refine (livesC_ok _).mono fun w H11 _ ⟨e1, e2⟩ => ?_
      subst e1; subst e2
      refine walk none0 ?_
      exact rfl
structure Run (H0 H : Heap) (p : Nat) (slv : AV) (ps : List Nat) (l : List ProcT) (next most : Int) : Prop where
  t : TabP H p slv ps l next most
  inv : InvP l next most
  lo : ∀ z, foot p slv ps z → H0.next ≤ z
  u : Upd (fun z => H0.next ≤ z) H0 H
theorem Run.step {H0 H H2 H3 : Heap} {p b : Nat} {slv : AV} {ps : List Nat} {l : List ProcT} {next most : Int} (r : Run H0 H p slv ps l next most) (k : Keep H H2) (hb : H.next ≤ b) (h : PostD H2 p b slv ps l next most H3) : ∃ slv' ps' l' next', StepP l next most l' next' ∧ Run H0 H3 p slv' ps' l' next' most ∧ next' ≤ next + 1 ∧ Upd (fun z => foot p slv ps z ∨ H.next ≤ z) H H3 := by
  obtain ⟨slv', ps', l', next', hs, u, hf, t⟩ := h
  obtain ⟨g, _, hn⟩ := step_inv r.inv hs
  have h1 := r.u.next
  have h2 := k.next
  refine ⟨slv', ps', l', next', hs, ⟨t, g, fun z hz => ?_, (r.u.then k).trans u fun z _ e => ?_⟩, hn, (Upd.of k).trans u fun z _ e => ?_⟩
  · rcases hf z hz with h' | h'
    · exact r.lo z h'
    · omega
  · rcases e with e | e
    · exact r.lo z e
    · omega
  · rcases e with e | e
    · exact .inl e
    · exact .inr (by omega)
end Go.Abs

/- Chapter 14: ProcsFamily, ProcsStays, walked. -/
namespace Go.Abs
open Go.Proofs
set_option maxRecDepth 100000
set_option linter.unusedVariables false
set_option linter.unusedSimpArgs false

set_option maxHeartbeats 4000000 in
theorem procsFamily_main (z0 : Int) (va : AV) (l0 : List ActI) (H : Heap) (h0 : 0 ≤ z0 ∧ z0 ≤ 255) (hl : ActL H va l0) : Cl Try.prog pr14 3 [.int .u8 z0, va] H fun v _ => v = .bool true := by
  have hn : 1 ≤ 1 + z0 % 8 ∧ 1 + z0 % 8 ≤ 64 := by omega
  have hmod : z0.tmod 8 = z0 % 8 := Int.tmod_eq_emod_of_nonneg h0.1
  obtain ⟨a, cap, ex, rfl, hlen⟩ := hl.form
  unfold maxLen at hlen
  refine Cl.enter Try.func3 rfl rfl Try.ntmps3 (by simp) ?_
  refine walk hmod ?_
  refine (newP_ok (1 + z0 % 8) hn.1 hn.2 H).mono fun w H1 _ ⟨p, slv, ps, e, hT, hlo, hk⟩ => ?_
  subst e
  generalize 1 + z0 % 8 = n at *
  refine walk none0 ?_
  refine Wq.loop (fun m e H' => ∃ (i : Nat) (slv : AV) (ps : List Nat) (l : List ProcT) (next : Int), i ≤ 100 ∧ m = 100 - i ∧ e 1 = .slice a l0.length cap ex ∧ e 5 = .ptr (some (p, 0)) ∧ e 6 = .int .i64 i ∧ Run H H' p slv ps l next n ∧ next ≤ 2 + i) 100 ?_ ?_
  · exact ⟨0, slv, ps, _, 2, by omega, by omega, by simp, by simp, by simp, ⟨hT, inv_new hn, hlo, Upd.of hk⟩, by omega⟩
  · rintro m e H' ⟨i, slv, ps, l, next, hi, rfl, g1, g5, g6, hR, hnx⟩
    have hI := hR.inv
    have hfit := hI.fit
    have hnx2 := hI.nx
    by_cases hlt : i < l0.length
    · by_cases h100 : i < 100
      · obtain ⟨x, hx⟩ := get_lt hlt
        have hl' := hl.upd hR.u fun z hz => by omega
        obtain ⟨b, o, c, t, w, mk, rfl, hb1, hb2, hb3, hb4⟩ := hl'.at hx
        refine walk (both g1 (both g5 (both g6 (both hlt h100)))) ?_
        refine Wq.regionM [(1, 0), (0, 0), (2, 0), (3, 0), (4, 0), (5, 2), (6, 0)] (by kernel_rfl) ?_
        refine mwalk (both g1 (both g5 g6)) ?_
        refine (refNewP_ok H').mono fun w H2 _ ⟨q, rb, e1, hq, hrb, hM, hk2⟩ => ?_
        subst e1
        have hb2' := (hk2.get hb1).trans hb2
        refine mwalk (both g1 (both g5 (both g6 (both hb2 (both hb4 hb2'))))) ?_
        refine (doesP_ok (hR.t.kept hk2) hM hR.t.lt hrb hq hI.rise (by omega) (by omega) x.k x.id x.a).mono fun w H3 _ hD => ?_
        obtain ⟨slv', ps', l', next', _, hR3, hn3, _⟩ := hR.step hk2 hrb hD
        refine mwalk none0 ?_
        refine walk g6 ?_
        exact Roundq.normal (100 - (i + 1)) (by omega) ⟨i + 1, slv', ps', l', next', by omega, rfl, by simp [g1], by simp [g5], by simp, hR3, by omega⟩
      · refine walk (both g1 (both g5 (both g6 (both hlt h100)))) ?_
        refine (dumpP_ok hR.t (by omega)).mono fun w H3 _ hF => ?_
        obtain ⟨da, dx, rfl, _⟩ := hF.own.form
        have hS := hF.own.sl
        have hT3 := hR.t.kept hF.keep
        obtain ⟨x0, hx0, p0, q0, v0⟩ := hI.first
        refine walk g5 ?_
        refine Wq.loop (fun m e Hx => ∃ k : Nat, k ≤ l.length ∧ m = l.length - k ∧ Hx = H3 ∧ e 5 = .ptr (some (p, 0)) ∧ e 7 = .slice da l.length l.length dx ∧ e 8 = .int .i64 k) l.length ?_ ?_
        · exact ⟨0, by omega, by omega, rfl, by simp [g5], by simp, by simp⟩
        · rintro m e Hx ⟨k, hk', rfl, rfl, g5, g7, g8⟩
          by_cases hkl : k < l.length
          · obtain ⟨y, hy⟩ := get_lt hkl
            have hym := List.mem_of_getElem? hy
            obtain ⟨b, o, c, t, w, mk, rfl, hb1, hb2, hb3, hb4, c0, c1, c2, c5⟩ := proc_at hS hy
            by_cases hy1 : y.pid = 1
            · have hyx : y = x0 := by
                obtain rfl := riseP_eq hI.rise hy hx0 (by omega)
                rw [hx0] at hy; injection hy with hy; exact hy.symm
              rw [hy1] at c0
              rw [hyx, q0] at c1
              rw [hyx, v0] at c2
              refine walk (both g5 (both g7 (both g8 (both hkl (both hb2 (both c0 (both c1 c2))))))) ?_
              exact Roundq.normal (l.length - (k + 1)) (by omega) ⟨k + 1, by omega, rfl, rfl, by simp [g5], by simp [g7], by simp⟩
            · refine walk (both g5 (both g7 (both g8 (both hkl (both hb2 (both c0 (both c1 (both c2 hy1)))))))) ?_
              refine (lives_of hT3 hI.rise (by omega) y.parent).mono fun w H4 _ ⟨⟨t4, e1, ht4⟩, e2⟩ => ?_
              subst e1; subst e2
              have ht4' : t4 = true := ht4 (by
                obtain ⟨z, hz, z1, z2⟩ := hI.fam y hym hy1
                exact ⟨z, hz, z1, z2⟩)
              subst ht4'
              refine walk g8 ?_
              exact Roundq.normal (l.length - (k + 1)) (by omega) ⟨k + 1, by omega, rfl, rfl, by simp [g5], by simp [g7], by simp⟩
          · have hpos : 0 < l.length := lt_of_get? hx0
            obtain ⟨b, o, c, t, w, mk, rfl, hb1, hb2, hb3, hb4, c0, c1, c2, c5⟩ := proc_at hS hx0
            rw [p0] at c0
            simp only [Nat.zero_mul, Nat.add_zero] at c0
            refine walk (both g5 (both g7 (both g8 (both hkl (both hb2 c0))))) ?_
            refine (livesC_ok _).mono fun w H5 _ ⟨e1, e2⟩ => ?_
            subst e1; subst e2
            refine walk none0 ?_
            exact rfl
    · refine walk (both g1 (both g5 (both g6 hlt))) ?_
      refine (dumpP_ok hR.t (by omega)).mono fun w H3 _ hF => ?_
      obtain ⟨da, dx, rfl, _⟩ := hF.own.form
      have hS := hF.own.sl
      have hT3 := hR.t.kept hF.keep
      obtain ⟨x0, hx0, p0, q0, v0⟩ := hI.first
      refine walk g5 ?_
      refine Wq.loop (fun m e Hx => ∃ k : Nat, k ≤ l.length ∧ m = l.length - k ∧ Hx = H3 ∧ e 5 = .ptr (some (p, 0)) ∧ e 7 = .slice da l.length l.length dx ∧ e 8 = .int .i64 k) l.length ?_ ?_
      · exact ⟨0, by omega, by omega, rfl, by simp [g5], by simp, by simp⟩
      · rintro m e Hx ⟨k, hk', rfl, rfl, g5, g7, g8⟩
        by_cases hkl : k < l.length
        · obtain ⟨y, hy⟩ := get_lt hkl
          have hym := List.mem_of_getElem? hy
          obtain ⟨b, o, c, t, w, mk, rfl, hb1, hb2, hb3, hb4, c0, c1, c2, c5⟩ := proc_at hS hy
          by_cases hy1 : y.pid = 1
          · have hyx : y = x0 := by
              obtain rfl := riseP_eq hI.rise hy hx0 (by omega)
              rw [hx0] at hy; injection hy with hy; exact hy.symm
            rw [hy1] at c0
            rw [hyx, q0] at c1
            rw [hyx, v0] at c2
            refine walk (both g5 (both g7 (both g8 (both hkl (both hb2 (both c0 (both c1 c2))))))) ?_
            exact Roundq.normal (l.length - (k + 1)) (by omega) ⟨k + 1, by omega, rfl, rfl, by simp [g5], by simp [g7], by simp⟩
          · refine walk (both g5 (both g7 (both g8 (both hkl (both hb2 (both c0 (both c1 (both c2 hy1)))))))) ?_
            refine (lives_of hT3 hI.rise (by omega) y.parent).mono fun w H4 _ ⟨⟨t4, e1, ht4⟩, e2⟩ => ?_
            subst e1; subst e2
            have ht4' : t4 = true := ht4 (by
              obtain ⟨z, hz, z1, z2⟩ := hI.fam y hym hy1
              exact ⟨z, hz, z1, z2⟩)
            subst ht4'
            refine walk g8 ?_
            exact Roundq.normal (l.length - (k + 1)) (by omega) ⟨k + 1, by omega, rfl, rfl, by simp [g5], by simp [g7], by simp⟩
        · have hpos : 0 < l.length := lt_of_get? hx0
          obtain ⟨b, o, c, t, w, mk, rfl, hb1, hb2, hb3, hb4, c0, c1, c2, c5⟩ := proc_at hS hx0
          rw [p0] at c0
          simp only [Nat.zero_mul, Nat.add_zero] at c0
          refine walk (both g5 (both g7 (both g8 (both hkl (both hb2 c0))))) ?_
          refine (livesC_ok _).mono fun w H5 _ ⟨e1, e2⟩ => ?_
          subst e1; subst e2
          refine walk none0 ?_
          exact rfl
end Go.Abs

/- Chapter 14: ProcsStays, walked. -/
namespace Go.Abs
open Go.Proofs
set_option maxRecDepth 100000
set_option linter.unusedVariables false
set_option linter.unusedSimpArgs false

theorem Run.kept {H0 H H' : Heap} {p : Nat} {slv : AV} {ps : List Nat} {l : List ProcT} {next most : Int} (r : Run H0 H p slv ps l next most) (k : Keep H H') : Run H0 H' p slv ps l next most := ⟨r.t.kept k, r.inv, r.lo, r.u.then k⟩
set_option maxHeartbeats 4000000 in
theorem procsStays_main (va : AV) (l0 : List ActI) (H : Heap) (hl : ActL H va l0) : Cl Try.prog pr14 4 [va] H fun v _ => v = .bool true := by
  obtain ⟨a, cap, ex, rfl, hlen⟩ := hl.form
  unfold maxLen at hlen
  refine Cl.enter Try.func4 rfl rfl Try.ntmps4 (by simp) ?_
  refine walk none0 ?_
  refine (newP_ok 8 (by omega) (by omega) H).mono fun w H1 _ ⟨p, slv, ps, e, hT, hlo, hk⟩ => ?_
  subst e
  refine walk none0 ?_
  refine Wq.loop (fun m e H' => ∃ (i : Nat) (slv : AV) (ps : List Nat) (l : List ProcT) (next : Int), i ≤ 100 ∧ m = 100 - i ∧ e 0 = .slice a l0.length cap ex ∧ e 3 = .ptr (some (p, 0)) ∧ e 4 = .int .i64 i ∧ Run H H' p slv ps l next 8 ∧ next ≤ 2 + i) 100 ?_ ?_
  · exact ⟨0, slv, ps, _, 2, by omega, by omega, by simp, by simp, by simp, ⟨hT, inv_new (by omega), hlo, Upd.of hk⟩, by omega⟩
  · rintro m e H' ⟨i, slv, ps, l, next, hi, rfl, g0, g3, g4, hR, hnx⟩
    have hI := hR.inv
    have hfit := hI.fit
    have hnx2 := hI.nx
    by_cases hlt : i < l0.length
    · by_cases h100 : i < 100
      · obtain ⟨x, hx⟩ := get_lt hlt
        refine walk (both g0 (both g3 (both g4 (both hlt h100)))) ?_
        refine (dumpP_ok hR.t (by omega)).mono fun w Hd _ hF => ?_
        obtain ⟨da, dx, rfl, _⟩ := hF.own.form
        have hRd := hR.kept hF.keep
        have hl' := hl.upd hRd.u fun z hz => by omega
        obtain ⟨b, o, c, t, w, mk, rfl, hb1, hb2, hb3, hb4⟩ := hl'.at hx
        refine walk (both g0 (both g3 g4)) ?_
        refine Wq.regionM [(1, 0), (0, 0), (2, 0), (3, 0), (4, 0), (5, 2), (6, 0)] (by kernel_rfl) ?_
        refine mwalk (both g0 (both g3 g4)) ?_
        refine (refNewP_ok Hd).mono fun w H2 _ ⟨q, rb, e1, hq, hrb, hM, hk2⟩ => ?_
        subst e1
        have hb2' := (hk2.get hb1).trans hb2
        refine mwalk (both g0 (both g3 (both g4 (both hb2 (both hb4 hb2'))))) ?_
        refine (doesP_ok (hRd.t.kept hk2) hM hRd.t.lt hrb hq hI.rise (by omega) (by omega) x.k x.id x.a).mono fun w H3 _ hD => ?_
        obtain ⟨slv', ps', l', next', hstep, hR3, hn3, hU3⟩ := hRd.step hk2 hrb hD
        obtain ⟨hcap, hlast⟩ := step_cap hI hstep
        have hI3 := hR3.inv
        have hfit3 := hI3.fit
        have hS3 := hF.own.sl.upd hU3 fun z hz _ e => by
          have h1 := hF.new z hz
          have h2 := hF.own.lt z hz
          rcases e with e | e
          · have := hR.t.lt z e; omega
          · omega
        refine mwalk none0 ?_
        refine walk none0 ?_
        refine Wq.loop (fun m e Hx => ∃ k : Nat, k ≤ l.length ∧ m = l.length - k ∧ Keep H3 Hx ∧ e 0 = .slice (some (b, o)) l0.length cap ex ∧ e 3 = .ptr (some (p, 0)) ∧ e 4 = .int .i64 i ∧ e 5 = .slice da l.length l.length dx ∧ e 6 = .int .i64 k) l.length ?_ ?_
        · exact ⟨0, by omega, by omega, Upd.rfl, by simp [g0], by simp [g3], by simp [g4], by simp, by simp⟩
        · rintro m e Hx ⟨k, hk', rfl, hkx, g0, g3, g4, g5, g6⟩
          have hRx := hR3.kept hkx
          have hSx := hS3.kept hkx
          by_cases hkl : k < l.length
          · obtain ⟨y, hy⟩ := get_lt hkl
            have hym := List.mem_of_getElem? hy
            obtain ⟨b2, o2, c, t, w, mk, rfl, hb1, hb2, hb3, hb4, c0, c1, c2, c5⟩ := proc_at hSx hy
            refine walk (both g0 (both g3 (both g4 (both g5 (both g6 (both hkl (both hb2 c0))))))) ?_
            refine (getP_ok hRx.t (by omega) y.pid).mono fun w H4 _ ⟨⟨x', t', e1, hx'⟩, hk4⟩ => ?_
            subst e1
            have hb24 := (hk4.get hb1).trans hb2
            have hn4 := hk4.next
            have kk : Keep H4 ((H4.push (.cells [.int .i64 0, .int .i64 0, .bool false, .int .i64 0, .bool false, .bool false, .int .i64 0] 33 true false)).set H4.next (.cells [.int .i64 x'.pid, .int .i64 x'.parent, .bool x'.lives, .int .i64 x'.code, .bool x'.pd, .bool x'.cap, .int .i64 x'.cwd] 33 true false)) := (Upd.rfl.push _).set _ (by simp) (by simp)
            have hb25 := (kk.get (by omega)).trans hb24
            unfold encP
            rcases hx' with ⟨rfl, hm', hp'⟩ | ⟨rfl, hc'⟩
            · cases hyc : y.cap with
              | true =>
                have hc' := hcap y hym x' hm' hp'.symm hyc
                rw [hyc] at c5
                rw [hc'] at kk hb25
                rw [hc']
                refine walk (both g0 (both g3 (both g4 (both g5 (both g6 (both hb25 c5)))))) ?_
                exact Roundq.normal (l.length - (k + 1)) (by omega) ⟨k + 1, by omega, rfl, (hkx.then hk4).then kk, by simp [g0], by simp [g3], by simp [g4], by simp [g5], by simp⟩
              | false =>
                rw [hyc] at c5
                refine walk (both g0 (both g3 (both g4 (both g5 (both g6 (both hb25 c5)))))) ?_
                exact Roundq.normal (l.length - (k + 1)) (by omega) ⟨k + 1, by omega, rfl, (hkx.then hk4).then kk, by simp [g0], by simp [g3], by simp [g4], by simp [g5], by simp⟩
            · refine walk (both g0 (both g3 (both g4 (both g5 g6)))) ?_
              exact Roundq.normal (l.length - (k + 1)) (by omega) ⟨k + 1, by omega, rfl, (hkx.then hk4).then kk, by simp [g0], by simp [g3], by simp [g4], by simp [g5], by simp⟩
          · refine walk (both g0 (both g3 (both g4 (both g5 (both g6 hkl))))) ?_
            refine (dumpP_ok hRx.t (by omega)).mono fun w H4 _ hF4 => ?_
            obtain ⟨na, nx, rfl, _⟩ := hF4.own.form
            have hR4 := hRx.kept hF4.keep
            by_cases hmore : l.length < l'.length
            · obtain ⟨cc, hcc, hcap2⟩ := hlast hmore
              obtain ⟨b3, o3, c3, t3, w3, mk3, rfl, d1, d2, d3, d4, _⟩ := proc_at hF4.own.sl hcc
              have hidx : ((l'.length : Int) - 1).toNat = l'.length - 1 := by omega
              unfold encP at d4
              refine walk (both g0 (both g3 (both g4 (both g5 (both hmore (both hidx (both d2 d4))))))) ?_
              have kc : Keep H4 ((H4.push (.cells [.int .i64 0, .int .i64 0, .bool false, .int .i64 0, .bool false, .bool false, .int .i64 0] 33 true false)).set H4.next (.cells [.int .i64 cc.pid, .int .i64 cc.parent, .bool cc.lives, .int .i64 cc.code, .bool cc.pd, .bool cc.cap, .int .i64 cc.cwd] 33 true false)) := (Upd.rfl.push _).set _ (by simp) (by simp)
              have gc : ((H4.push (.cells [.int .i64 0, .int .i64 0, .bool false, .int .i64 0, .bool false, .bool false, .int .i64 0] 33 true false)).set H4.next (.cells [.int .i64 cc.pid, .int .i64 cc.parent, .bool cc.lives, .int .i64 cc.code, .bool cc.pd, .bool cc.cap, .int .i64 cc.cwd] 33 true false)).get H4.next = some (.cells [.int .i64 cc.pid, .int .i64 cc.parent, .bool cc.lives, .int .i64 cc.code, .bool cc.pd, .bool cc.cap, .int .i64 cc.cwd] 33 true false) := Heap.get_set_same _ _ _
              have nc : H4.next < ((H4.push (.cells [.int .i64 0, .int .i64 0, .bool false, .int .i64 0, .bool false, .bool false, .int .i64 0] 33 true false)).set H4.next (.cells [.int .i64 cc.pid, .int .i64 cc.parent, .bool cc.lives, .int .i64 cc.code, .bool cc.pd, .bool cc.cap, .int .i64 cc.cwd] 33 true false)).next := by simp
              have hR5 := hR4.kept kc
              refine (getP_ok hR5.t (by omega) cc.parent).mono fun w H5 _ ⟨⟨x', t', e1, hx'⟩, hk5⟩ => ?_
              subst e1
              have gc5 := (hk5.get nc).trans gc
              have hR6 := hR5.kept hk5
              have hn5 := hk5.next
              have kd : Keep H5 ((H5.push (.cells [.int .i64 0, .int .i64 0, .bool false, .int .i64 0, .bool false, .bool false, .int .i64 0] 33 true false)).set H5.next (.cells [.int .i64 x'.pid, .int .i64 x'.parent, .bool x'.lives, .int .i64 x'.code, .bool x'.pd, .bool x'.cap, .int .i64 x'.cwd] 33 true false)) := (Upd.rfl.push _).set _ (by simp) (by simp)
              have gc6 := (kd.get (by omega)).trans gc5
              have hR7 := hR6.kept kd
              unfold encP
              cases hxc : x'.cap with
              | true =>
                have hcc2 : cc.cap = true := by
                  rcases hx' with ⟨_, hm', hp'⟩ | ⟨_, hc'⟩
                  · exact hcap2 x' hm' hp' hxc
                  · rw [hxc] at hc'; cases hc'
                rw [hxc] at gc6 hR7
                rw [hcc2] at gc6
                refine walk (both g0 (both g3 (both g4 gc6))) ?_
                exact Roundq.normal (100 - (i + 1)) (by omega) ⟨i + 1, slv', ps', l', next', by omega, rfl, by simp [g0], by simp [g3], by simp, hR7, by omega⟩
              | false =>
                rw [hxc] at gc6 hR7
                refine walk (both g0 (both g3 (both g4 gc6))) ?_
                exact Roundq.normal (100 - (i + 1)) (by omega) ⟨i + 1, slv', ps', l', next', by omega, rfl, by simp [g0], by simp [g3], by simp, hR7, by omega⟩
            · refine walk (both g0 (both g3 (both g4 (both g5 hmore)))) ?_
              exact Roundq.normal (100 - (i + 1)) (by omega) ⟨i + 1, slv', ps', l', next', by omega, rfl, by simp [g0], by simp [g3], by simp, hR4, by omega⟩
      · refine walk (both g0 (both g3 (both g4 (both hlt h100)))) ?_
        refine (livesC_ok _).mono fun w H5 _ ⟨e1, e2⟩ => ?_
        subst e1; subst e2
        refine walk none0 ?_
        exact rfl
    · refine walk (both g0 (both g3 (both g4 hlt))) ?_
      refine (livesC_ok _).mono fun w H5 _ ⟨e1, e2⟩ => ?_
      subst e1; subst e2
      refine walk none0 ?_
      exact rfl
end Go.Abs

/- The seat's own facts for its rows. -/
namespace Go.Proofs.Ytcpghbdhcpdffaa
open Go.ChangeShapes Go.WideShapes Go.ChangeAt Go.RowKit Go.Abs
set_option linter.unusedVariables false
set_option maxRecDepth 100000

theorem own : ownKnob Try.prog.godebug = none := by kernel_rfl
theorem laidOut : laidOutB Try.prog = true := by kernel_rfl
theorem mixed : Try.prog.follows .mixedOrders = true := by kernel_rfl
theorem plainN : plainNames Try.prog = true := by kernel_rfl
theorem run11 : ((acall Try.prog noPrims 40 11 [] (Heap.start Try.prog.globals.size)).map fun r => sameAV r.1 (.bool true)) = some true := by kernel_rfl
theorem runs11 : ∃ n H', acall Try.prog noPrims n 11 [] (Heap.start Try.prog.globals.size) = some (.bool true, H') := runs_of run11
theorem primsOk : PrimsOk Try.prog pr14 := by
  refine closedPrims_ok mixed plainN fun p hp => ?_
  simp at hp
  subst hp
  exact ⟨rfl, runs11⟩
theorem primsRl : PrimsRl pr14 := closedPrims_rl _
end Go.Proofs.Ytcpghbdhcpdffaa

/- ProcsNews: the row. -/
namespace Go.Proofs.Ytcpghbdhcpdffaa
open Go.ChangeShapes Go.WideShapes Go.ChangeAt Go.RowKit Go.Abs
set_option linter.unusedVariables false
set_option maxRecDepth 100000

theorem procsNewsMain (H : Heap) (xs : List AV) (hG : Try.prog.globals.size ≤ H.next) (hw : Wf H) (h : PicAll Try.prog H 3 [3, 3] xs) : CallsA Try.prog pr14 5 xs H fun v _ => v = .bool true := by
  obtain ⟨a0, r0, rfl, h0, a1, r1, rfl, h1, hend⟩ := h
  obtain rfl : r1 = [] := hend
  refine Cl.callsA primsRl hw ?_
  obtain ⟨z0, rfl, w0⟩ := picV_i64 Try.underlying3 h0
  obtain ⟨z1, rfl, w1⟩ := picV_i64 Try.underlying3 h1
  exact procsNews_main z0 z1 H w0

theorem procsNewsLifted (os : Os) (started : os.Started) (H : Type) (enc : TypeId × Value → H) :
    ReturnsInHanded {} Try.checked os 5 .any (Rows.procsNewsSpec.pre6 enc Try.prog Try.f5 Rows.procsNewsRow.domain false) (Rows.procsNewsSpec.post enc Try.prog Try.f5 false true false false) := by
  refine returnsInHanded_of_change (C := Try.checked) own started (by kernel_rfl) Try.func5
    (ChangeSpec.witness6 (enc := enc) (C := Try.checked) false ⟨#[], #[.int .i64 0, .int .i64 0], []⟩ 8 (by kernel_rfl) (by kernel_rfl) (by kernel_rfl) (by kernel_rfl)) ?_
  intro W base args ds gs before hval hW hcnd _
  have ep : Try.f5.params.toList = [3, 3] := by kernel_rfl
  refine law_post laidOut rfl (fun ds h => ?_) (tb := 4) (by kernel_rfl) Try.underlying4 ?_ hW (fun p hA => ?_)
  · rw [ep] at h
    match ds, h with
    | [a0, a1], _ => rfl
  · rw [ep]
    intro t ht
    simp at ht
    subst ht; exact ⟨by kernel_rfl, of_decide_eq_true (by kernel_rfl)⟩
  · refine law_calls primsOk mixed plainN Try.func5 rfl (n := 3) (base := base) (ts := Try.f5.params.toList) ?_ ?_ ?_ hA
    · rw [ep]
      intro t ht
      simp at ht
      subst ht; kernel_rfl
    · rw [ep]
      exact procsNewsMain
    · intro j t v h1 h2
      exact hval j t v (by simpa using h1) (by simpa using h2)

theorem procsNews : Rows.ProcsNewsSaid :=
  OpenClaim.holds_of_wide 5 Try.f5 rfl rfl rfl rfl rfl rfl rfl ⟨rfl, rfl, rfl, rfl, rfl⟩ rfl rfl rfl rfl rfl (by kernel_rfl) Try.func5 (by kernel_rfl)
    (of_decide_eq_true (by kernel_rfl)) (by unfold Func.isWrapper; first | (rw [if_pos (by decide +kernel)]; kernel_rfl) | (rw [if_neg (by decide +kernel)]; exact ⟨rfl, rfl⟩))
    (fun os started H enc _ => procsNewsLifted os started H enc)
-- #print axioms procsNews
end Go.Proofs.Ytcpghbdhcpdffaa
