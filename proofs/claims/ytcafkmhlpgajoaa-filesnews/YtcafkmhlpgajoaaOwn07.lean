/- Texts on this program, joined. -/
import Derived.Test.YtcafkmhlpgajoaaOwn05
import Derived.Test.YtcafkmhlpgajoaaKit06
import Derived.Test.YtcafkmhlpgajoaaKit03

/- Chapter 12: open files: shapes, the search, walked. -/
namespace Go.Abs
open Go.Proofs
set_option maxRecDepth 100000
set_option linter.unusedVariables false
set_option linter.unusedSimpArgs false

def pr12 : Prims := closedPrims [(9, .bool true)]

structure FileT where
  id : Int
  kind : Int
  obj : Int
  off : Int
  flags : Int
  refs : Int
def encF (x : FileT) : List AV := [.int .i64 x.id, .int .i64 x.kind, .int .i64 x.obj, .int .i64 x.off, .int .i64 x.flags, .int .i64 x.refs]
@[simp] theorem encF_len (x : FileT) : (encF x).length = 6 := rfl
theorem flatF_len (l : List FileT) : (flat encF l).length = l.length * 6 := flat_len encF_len l
theorem flatF_one (l : List FileT) : (flat encF l).all AV.one = true := by
  rw [List.all_eq_true]
  intro x hx
  simp only [flat, List.mem_flatMap] at hx
  obtain ⟨y, _, hy⟩ := hx
  simp [encF] at hy
  rcases hy with rfl | rfl | rfl | rfl | rfl | rfl <;> rfl
def In64 (z : Int) : Prop := -9223372036854775808 ≤ z ∧ z ≤ 9223372036854775807
def okF (x : FileT) : Prop := In64 x.id ∧ In64 x.kind ∧ In64 x.obj ∧ In64 x.off ∧ In64 x.flags ∧ In64 x.refs
/-- By their numbers, rising. -/
def Rise (l : List FileT) : Prop := ∀ (i j : Nat) (x y : FileT), l[i]? = some x → l[j]? = some y → i < j → x.id < y.id

theorem isNaN_ok (x : Int) (H : Heap) : Cl Try.prog pr12 35 [.int .i64 x] H fun v H' => v = .bool false ∧ H' = H := by
  refine Cl.enter Try.func35 rfl rfl Try.ntmps35 (by simp) ?_
  refine walk none0 ?_
  exact ⟨rfl, rfl⟩
def cmpI (x y : Int) : Int := if x < y then -1 else if y < x then 1 else 0
theorem cmp_ok (x y : Int) (H : Heap) : Cl Try.prog pr12 33 [.int .i64 x, .int .i64 y] H fun v H' => v = .int .i64 (cmpI x y) ∧ H' = H := by
  refine Cl.enter Try.func33 rfl rfl Try.ntmps33 (by simp) ?_
  refine walk none0 ?_
  refine (isNaN_ok x H).mono fun v H1 _ ⟨e1, e2⟩ => ?_
  subst e1; subst e2
  refine walk none0 ?_
  refine (isNaN_ok y H1).mono fun v H2 _ ⟨e1, e2⟩ => ?_
  subst e1; subst e2
  by_cases h1 : x < y
  · refine walk h1 ?_
    exact ⟨by simp [cmpI, h1], rfl⟩
  · by_cases h2 : y < x
    · refine walk (both h1 h2) ?_
      exact ⟨by simp [cmpI, h1, h2], rfl⟩
    · refine walk (both h1 h2) ?_
      exact ⟨by simp [cmpI, h1, h2], rfl⟩
theorem at1_ok (x : FileT) (id : Int) (H : Heap) : Cl Try.prog pr12 32 [.agg (encF x), .int .i64 id] H fun v H' => v = .int .i64 (cmpI x.id id) ∧ Keep H H' := by
  unfold encF
  refine Cl.enter Try.func32 rfl rfl Try.ntmps32 (by simp) ?_
  refine walk none0 ?_
  refine (cmp_ok x.id id _).mono fun v H1 _ ⟨e1, e2⟩ => ?_
  subst e1; subst e2
  refine walk none0 ?_
  exact ⟨rfl, Upd.rfl.push _⟩
theorem get_lt {α : Type} {l : List α} {i : Nat} (h : i < l.length) : ∃ x, l[i]? = some x := ⟨l[i], by simp [h]⟩
theorem lt_of_get? {α : Type} {l : List α} {i : Nat} {x : α} (h : l[i]? = some x) : i < l.length := by
  rcases Nat.lt_or_ge i l.length with h' | h'
  · exact h'
  · rw [List.getElem?_eq_none h'] at h; cases h
theorem fit_at {i n : Nat} (h : i < n) : i * 6 + 6 ≤ n * 6 := by omega
theorem file_at {H : Heap} {a : Option (Nat × Nat)} {cap : Nat} {ex : Option Nat} {l : List FileT} {i : Nat} {x : FileT} (h : Sl H 6 (.slice a l.length cap ex) l.length (flat encF l)) (hx : l[i]? = some x) :
    ∃ b o c t w m, a = some (b, o) ∧ b < H.next ∧ H.get b = some (.cells c t w m) ∧ o + i * 6 + 6 ≤ c.length ∧ (c.drop (o + i * 6)).take 6 = encF x := by
  have hi := lt_of_get? hx
  obtain ⟨b, o, c, t, w, m, rfl, h1, h2, h3, h4⟩ := h.at (by omega)
  have hf := fit_at hi
  refine ⟨b, o, c, t, w, m, rfl, h1, h2, by omega, ?_⟩
  rw [sub_take h4 hf]
  exact flat_take encF_len hx
theorem half_eq (i j : Nat) (hi : i ≤ 100000) (hj : j ≤ 100000) : IntKind.i64.wrap ((IntKind.u64.wrap ((i : Int) + j)).fdiv (2 ^ min 1 IntKind.u64.bits)) = (((i + j) / 2 : Nat) : Int) := by
  have e1 : IntKind.u64.wrap ((i : Int) + j) = (i : Int) + j := by simp [IntKind.wrap, IntKind.signed, IntKind.bits]; omega
  have e2 : (2 : Int) ^ min 1 IntKind.u64.bits = 2 := rfl
  rw [e1, e2, Int.fdiv_eq_ediv_of_nonneg _ (by omega)]
  have e3 : ((i : Int) + j) / 2 = (((i + j) / 2 : Nat) : Int) := by omega
  rw [e3]
  simp (disch := omega) [wrapI64]
theorem search_ok {H : Heap} {v : AV} {l : List FileT} (id : Int) (h : Sl H 6 v l.length (flat encF l)) (hn : l.length ≤ 1000) (hr : Rise l) :
    Cl Try.prog pr12 31 [v, .int .i64 id, .func (.func 32) [] []] H fun w H' => (∃ (i : Nat) (t : Bool), w = .tuple [.int .i64 i, .bool t] ∧ i ≤ l.length ∧ ((t = true ∧ ∃ x, l[i]? = some x ∧ x.id = id) ∨ (t = false ∧ ∀ x ∈ l, x.id ≠ id))) ∧ Keep H H' := by
  obtain ⟨a, cap, ex, rfl, hc, hex⟩ := h.form
  refine Cl.enter Try.func31 rfl rfl Try.ntmps31 (by simp) ?_
  refine walk none0 ?_
  refine Wq.loop (fun m e H' => ∃ i j : Nat, i ≤ j ∧ j ≤ l.length ∧ m = j - i ∧ e 0 = .slice a l.length cap ex ∧ e 1 = .int .i64 id ∧ e 2 = .func (.func 32) [] [] ∧ e 8 = .int .i64 l.length ∧ e 9 = .int .i64 i ∧ e 10 = .int .i64 j ∧ Keep H H' ∧
    (∀ (k : Nat) (x : FileT), l[k]? = some x → k < i → x.id < id) ∧ (∀ (k : Nat) (x : FileT), l[k]? = some x → j ≤ k → id ≤ x.id)) l.length ?_ ?_
  · exact ⟨0, l.length, by omega, by omega, by omega, by simp, by simp, by simp, by simp, by simp, by simp, Upd.rfl, fun k x _ h => by omega, fun k x hx h => by rw [List.getElem?_eq_none (by omega)] at hx; cases hx⟩
  · rintro m e H' ⟨i, j, hij, hj, rfl, g0, g1, g2, g8, g9, g10, hk, hlo, hhi⟩
    by_cases hlt : i < j
    · have hh := half_eq i j (by omega) (by omega)
      obtain ⟨x, hx⟩ := get_lt (l := l) (i := (i + j) / 2) (by omega)
      obtain ⟨b, o, c, t, w, mk, rfl, hb1, hb2, hb3, hb4⟩ := file_at (h.kept hk) hx
      have hM : i ≤ (i + j) / 2 ∧ (i + j) / 2 < j := by omega
      generalize (i + j) / 2 = M at *
      refine walk (both g0 (both g1 (both g2 (both g8 (both g9 (both g10 (both hlt (both hh (both hb2 hb4))))))))) ?_
      refine (at1_ok x id H').mono fun v H1 _ ⟨e1, hk1⟩ => ?_
      subst e1
      by_cases h1 : x.id < id
      · have hc1 : cmpI x.id id = -1 := by simp [cmpI, h1]
        refine walk (both g0 hc1) ?_
        refine Roundq.normal (j - (M + 1)) (by omega) ⟨M + 1, j, by omega, hj, rfl, by simp [g0], by simp [g1], by simp [g2], by simp [g8], by simp, by simp [g10], hk.then hk1, fun k y hy hky => ?_, hhi⟩
        rcases Nat.lt_or_ge k M with h' | h'
        · have := hr k M y x hy hx h'; omega
        · obtain rfl : k = M := by omega
          rw [hx] at hy; injection hy with hy; subst hy; exact h1
      · have hc1 : ¬ cmpI x.id id < 0 := by unfold cmpI; rw [if_neg h1]; split <;> omega
        refine walk (both g0 hc1) ?_
        refine Roundq.normal (M - i) (by omega) ⟨i, M, by omega, by omega, rfl, by simp [g0], by simp [g1], by simp [g2], by simp [g8], by simp [g9], by simp, hk.then hk1, hlo, fun k y hy hky => ?_⟩
        rcases Nat.lt_or_ge M k with h' | h'
        · have := hr M k x y hx hy h'; omega
        · obtain rfl : k = M := by omega
          rw [hx] at hy; injection hy with hy; subst hy; omega
    · obtain rfl : i = j := by omega
      by_cases hin : i < l.length
      · obtain ⟨x, hx⟩ := get_lt hin
        obtain ⟨b, o, c, t, w, mk, rfl, hb1, hb2, hb3, hb4⟩ := file_at (h.kept hk) hx
        refine walk (both g0 (both g1 (both g2 (both g8 (both g9 (both g10 (both hlt (both hin (both hb2 hb4))))))))) ?_
        refine (at1_ok x id H').mono fun v H1 _ ⟨e1, hk1⟩ => ?_
        subst e1
        have hge := hhi i x hx (Nat.le_refl _)
        by_cases h1 : x.id = id
        · have hc1 : cmpI x.id id = 0 := by unfold cmpI; rw [if_neg (by omega), if_neg (by omega)]
          refine walk (both g0 (both g9 hc1)) ?_
          exact ⟨⟨i, true, rfl, by omega, .inl ⟨rfl, x, hx, h1⟩⟩, hk.then hk1⟩
        · have hc1 : ¬ cmpI x.id id = 0 := by unfold cmpI; rw [if_neg (by omega), if_pos (by omega)]; omega
          refine walk (both g0 (both g9 hc1)) ?_
          refine ⟨⟨i, false, rfl, by omega, .inr ⟨rfl, fun y hy e => ?_⟩⟩, hk.then hk1⟩
          obtain ⟨k, hk'⟩ := List.mem_iff_getElem?.1 hy
          rcases Nat.lt_or_ge k i with h' | h'
          · have := hlo k y hk' h'; omega
          · rcases Nat.lt_or_ge i k with h'' | h''
            · have := hr i k x y hx hk' h''; omega
            · obtain rfl : k = i := by omega
              rw [hx] at hk'; injection hk' with hk'; subst hk'; exact h1 e
      · refine walk (both g0 (both g1 (both g2 (both g8 (both g9 (both g10 (both hlt hin))))))) ?_
        refine ⟨⟨i, false, rfl, by omega, .inr ⟨rfl, fun y hy e => ?_⟩⟩, hk⟩
        obtain ⟨k, hk'⟩ := List.mem_iff_getElem?.1 hy
        have := hlo k y hk' (by have := lt_of_get? hk'; omega); omega
end Go.Abs

/- Chapter 12: the table, and what is done to it, walked. -/
namespace Go.Abs
open Go.Proofs
set_option maxRecDepth 100000
set_option linter.unusedVariables false
set_option linter.unusedSimpArgs false

/-- A table (the program's, the reference's), and the open files that it holds. -/
structure TabR (H : Heap) (tt : TypeId) (p : Nat) (slv : AV) (l : List FileT) (next most : Int) : Prop where
  t : H.get p = some (.cells [slv, .int .i64 next, .int .i64 most] tt true false)
  own : OwnG H 39 6 slv l.length (flat encF l)
  apart : slBlock slv ≠ some p
  lt : ∀ z, slBlock slv = some z → z < H.next
  plt : p < H.next
structure GoodF (l : List FileT) (next most : Int) : Prop where
  rise : Rise l
  ids : ∀ x ∈ l, 1 ≤ x.id ∧ x.id < next
  flg : ∀ x ∈ l, 0 ≤ x.flags ∧ x.flags ≤ 15
  ref : ∀ x ∈ l, 1 ≤ x.refs ∧ x.refs ≤ 1000000
  nxt : 1 ≤ next
  fit : (l.length : Int) ≤ most ∧ 1 ≤ most ∧ most ≤ 256

theorem TabR.keep {H H' : Heap} {tt : TypeId} {p : Nat} {slv : AV} {l : List FileT} {next most : Int} {fp : Nat → Prop} (h : TabR H tt p slv l next most) (u : Upd fp H H') (hp : ¬ fp p) (hs : ∀ z, slBlock slv = some z → ¬ fp z) : TabR H' tt p slv l next most :=
  ⟨(u.keep p h.plt hp).trans h.t, h.own.upd u hs, h.apart, fun z hz => by have := h.lt z hz; have := u.next; omega, by have := h.plt; have := u.next; omega⟩
theorem TabR.kept {H H' : Heap} {tt : TypeId} {p : Nat} {slv : AV} {l : List FileT} {next most : Int} (h : TabR H tt p slv l next most) (k : Keep H H') : TabR H' tt p slv l next most := h.keep k id fun _ _ h => h

theorem flat_set {l : List FileT} {i k : Nat} {x y : FileT} {v : AV} (hx : l[i]? = some x) (hk : k < 6) (hy : encF y = (encF x).set k v) : (flat encF l).set (i * 6 + k) v = flat encF (l.set i y) := by
  induction l generalizing i with
  | nil => simp at hx
  | cons a l ih =>
    cases i with
    | zero =>
      simp at hx; subst hx
      simp only [flat, List.flatMap_cons, List.set_cons_zero, Nat.zero_mul, Nat.zero_add]
      rw [List.set_append_left _ _ (by simp; omega), hy]
    | succ i =>
      have := ih (i := i) (by simpa using hx)
      simp only [flat, List.flatMap_cons, List.set_cons_succ] at this ⊢
      rw [List.set_append_right _ _ (by simp; omega), ← this]
      congr 2
      simp; omega
/-- One cell of one file set. -/
theorem TabR.put {H : Heap} {tt : TypeId} {p b o cap : Nat} {ex : Option Nat} {l : List FileT} {next most : Int} {c : List AV} {i k : Nat} {x y : FileT} {v : AV} (h : TabR H tt p (.slice (some (b, o)) l.length cap ex) l next most) (hg : H.get b = some (.cells c 39 true false)) (hx : l[i]? = some x) (hk : k < 6) (hy : encF y = (encF x).set k v) :
    TabR (H.set b (.cells (c.set (o + i * 6 + k) v) 39 true false)) tt p (.slice (some (b, o)) (l.set i y).length cap ex) (l.set i y) next most ∧ Upd (fun z => some b = some z) H (H.set b (.cells (c.set (o + i * 6 + k) v) 39 true false)) := by
  have hi := lt_of_get? hx
  have hf := fit_at hi
  have hb := h.lt b rfl
  have hpb : p ≠ b := fun e => h.apart (by rw [e]; rfl)
  obtain ⟨b', o', c', e, h0, h1, h2, h3, h4, h5, h6⟩ := h.own.at (by omega)
  simp only [Option.some.injEq, Prod.mk.injEq] at e
  obtain ⟨rfl, rfl⟩ := e
  rw [hg] at h3
  injection h3 with h3; injection h3 with h3 _
  subst h3
  refine ⟨⟨by rw [Heap.get_set, if_neg hpb, List.length_set]; exact h.t, ?_, h.apart, fun z hz => by simpa using h.lt z hz, by simpa using h.plt⟩, Upd.rfl.set _ hb fun _ => rfl⟩
  rw [List.length_set, ← flat_set hx hk hy]
  have := OwnG.refill (H' := H.set b (.cells (c.set (o + i * 6 + k) v) 39 true false)) (elem := 39) (s := 6) h0 h1 (by simpa using hb) (Heap.get_set_same _ _ _) (by rw [List.length_set]; exact h4)
  rw [show o + i * 6 + k = o + (i * 6 + k) by omega] at this ⊢
  rw [set_sub h6 (by omega)] at this
  exact this

theorem at_nil (id : Int) (H : Heap) : Cl Try.prog pr12 23 [.ptr none, .int .i64 id] H fun w H' => w = .tuple [.int .i64 0, .int .i64 22] ∧ H' = H := by
  refine Cl.enter Try.func23 rfl rfl Try.ntmps23 (by simp) ?_
  refine walk none0 ?_
  exact ⟨rfl, rfl⟩
/-- The place of a number. -/
def placeF (l : List FileT) (id : Int) : Option Nat := l.findIdx? fun x => x.id == id
theorem place_some {l : List FileT} {id : Int} {i : Nat} {x : FileT} (hr : Rise l) (hx : l[i]? = some x) (hid : x.id = id) : placeF l id = some i := by
  unfold placeF
  rw [List.findIdx?_eq_some_iff_getElem]
  have hi := lt_of_get? hx
  have hxi : l[i] = x := by rw [List.getElem?_eq_getElem hi] at hx; injection hx
  refine ⟨hi, by simp [hxi, hid], fun j hj => ?_⟩
  have hj2 : l[j]? = some (l[j]'(by omega)) := List.getElem?_eq_getElem _
  have := hr j i _ _ hj2 hx hj
  simp; omega
theorem place_none {l : List FileT} {id : Int} (h : ∀ x ∈ l, x.id ≠ id) : placeF l id = none := by
  unfold placeF
  rw [List.findIdx?_eq_none_iff]
  intro x hx
  simpa using h x hx
theorem place_at {l : List FileT} {id : Int} {i : Nat} (h : placeF l id = some i) : ∃ x, l[i]? = some x ∧ x.id = id := by
  unfold placeF at h
  rw [List.findIdx?_eq_some_iff_getElem] at h
  obtain ⟨hi, h1, _⟩ := h
  exact ⟨l[i], by simp [hi], by simpa using h1⟩
theorem at_ok {H : Heap} {p : Nat} {slv : AV} {l : List FileT} {next most : Int} (h : TabR H 55 p slv l next most) (g : GoodF l next most) (id : Int) :
    Cl Try.prog pr12 23 [.ptr (some (p, 0)), .int .i64 id] H fun w H' => w = .tuple (match placeF l id with | some i => [.int .i64 i, .int .i64 0] | none => [.int .i64 0, .int .i64 9]) ∧ Keep H H' := by
  have ht := h.t
  have hf := g.fit
  obtain ⟨a, cap, ex, rfl, hc, hex⟩ := h.own.form
  refine Cl.enter Try.func23 rfl rfl Try.ntmps23 (by simp) ?_
  refine walk ht ?_
  refine (search_ok id h.own.sl (by omega) g.rise).mono fun w H1 _ ⟨⟨i, t, e1, hi, hit⟩, hk⟩ => ?_
  subst e1
  rcases hit with ⟨rfl, x, hx, hid⟩ | ⟨rfl, hno⟩
  · rw [place_some g.rise hx hid]
    refine walk none0 ?_
    exact ⟨rfl, hk⟩
  · rw [place_none hno]
    refine walk none0 ?_
    exact ⟨rfl, hk⟩
end Go.Abs

/- Chapter 12: Hold, Seek, SetFlags, Open, Get, Room, Numbers, Dump, walked. -/
namespace Go.Abs
open Go.Proofs
set_option maxRecDepth 100000
set_option linter.unusedVariables false
set_option linter.unusedSimpArgs false

def updF (l : List FileT) (id : Int) (f : FileT → FileT) : List FileT × Int := match placeF l id with
  | none => (l, 9)
  | some i => match l[i]? with
    | some x => (l.set i (f x), 0)
    | none => (l, 9)
theorem updF_none {l : List FileT} {id : Int} {f : FileT → FileT} (h : placeF l id = none) : updF l id f = (l, 9) := by simp [updF, h]
theorem updF_some {l : List FileT} {id : Int} {f : FileT → FileT} {i : Nat} {x : FileT} (h : placeF l id = some i) (hx : l[i]? = some x) : updF l id f = (l.set i (f x), 0) := by simp [updF, h, hx]
/-- The bytes of a file, for a walk. -/
theorem TabR.file {H : Heap} {tt : TypeId} {p : Nat} {a : Option (Nat × Nat)} {cap : Nat} {ex : Option Nat} {l : List FileT} {next most : Int} {i : Nat} {x : FileT} (h : TabR H tt p (.slice a l.length cap ex) l next most) (hx : l[i]? = some x) :
    ∃ b o c, a = some (b, o) ∧ b < H.next ∧ H.get b = some (.cells c 39 true false) ∧ o + i * 6 + 6 ≤ c.length ∧ (c.drop (o + i * 6)).take 6 = encF x ∧ c[o + i * 6]? = some (.int .i64 x.id) ∧ c[o + i * 6 + 3]? = some (.int .i64 x.off) ∧ c[o + i * 6 + 4]? = some (.int .i64 x.flags) ∧ c[o + i * 6 + 5]? = some (.int .i64 x.refs) := by
  have hi := lt_of_get? hx
  have hf := fit_at hi
  obtain ⟨b, o, c, rfl, h0, h1, h2, h3, h4, h5, h6⟩ := h.own.at (by omega)
  have hd : (c.drop (o + i * 6)).take 6 = encF x := by rw [sub_take h6 hf]; exact flat_take encF_len hx
  refine ⟨b, o, c, rfl, h2, h3, by omega, hd, ?_, ?_, ?_, ?_⟩
  · have := sub_get (i := 0) hd (by omega); simpa [encF] using this
  · have := sub_get (i := 3) hd (by omega); simpa [encF] using this
  · have := sub_get (i := 4) hd (by omega); simpa [encF] using this
  · have := sub_get (i := 5) hd (by omega); simpa [encF] using this

theorem hold_ok {H : Heap} {p : Nat} {slv : AV} {l : List FileT} {next most : Int} (h : TabR H 55 p slv l next most) (g : GoodF l next most) (hn : next ≤ 100000) (id : Int) :
    Cl Try.prog pr12 10 [.ptr (some (p, 0)), .int .i64 id] H fun w H' => w = .int .i64 (updF l id fun x => { x with refs := x.refs + 1 }).2 ∧ Upd (fun z => slBlock slv = some z) H H' ∧ TabR H' 55 p slv (updF l id fun x => { x with refs := x.refs + 1 }).1 next most := by
  refine Cl.enter Try.func10 rfl rfl Try.ntmps10 (by simp) ?_
  refine walk none0 ?_
  refine (at_ok h g id).mono fun w H1 _ ⟨e1, hk⟩ => ?_
  subst e1
  have h1 := h.kept hk
  have ht := h1.t
  have hf := g.fit
  obtain ⟨a, cap, ex, rfl, hc, hex⟩ := h.own.form
  cases hp : placeF l id with
  | none =>
    rw [updF_none hp]
    refine walk none0 ?_
    exact ⟨rfl, Upd.of hk, h1⟩
  | some i =>
    obtain ⟨x, hx, hid⟩ := place_at hp
    rw [updF_some hp hx]
    have hi := lt_of_get? hx
    have hrf := g.ref x (List.mem_of_getElem? hx)
    obtain ⟨b, o, c, rfl, hb1, hb2, hb3, hb4, r0, r3, r4, r5⟩ := h1.file hx
    refine walk (both ht (both hb2 r5)) ?_
    obtain ⟨q1, q2⟩ := h1.put (k := 5) (v := .int .i64 (x.refs + 1)) (y := { x with refs := x.refs + 1 }) hb2 hx (by decide) rfl
    rw [List.length_set] at q1
    exact ⟨rfl, (Upd.of hk).trans q2 fun z _ h => h, q1⟩

theorem seek_ok {H : Heap} {p : Nat} {slv : AV} {l : List FileT} {next most : Int} (h : TabR H 55 p slv l next most) (g : GoodF l next most) (id off : Int) :
    Cl Try.prog pr12 20 [.ptr (some (p, 0)), .int .i64 id, .int .i64 off] H fun w H' => w = .int .i64 (if off < 0 ∧ placeF l id ≠ none then 22 else (updF l id fun x => { x with off := off }).2) ∧ Upd (fun z => slBlock slv = some z) H H' ∧ TabR H' 55 p slv (if off < 0 then l else (updF l id fun x => { x with off := off }).1) next most := by
  refine Cl.enter Try.func20 rfl rfl Try.ntmps20 (by simp) ?_
  refine walk none0 ?_
  refine (at_ok h g id).mono fun w H1 _ ⟨e1, hk⟩ => ?_
  subst e1
  have h1 := h.kept hk
  have ht := h1.t
  have hf := g.fit
  obtain ⟨a, cap, ex, rfl, hc, hex⟩ := h.own.form
  cases hp : placeF l id with
  | none =>
    rw [updF_none hp]
    refine walk none0 ?_
    exact ⟨by simp, Upd.of hk, by simpa using h1⟩
  | some i =>
    obtain ⟨x, hx, hid⟩ := place_at hp
    rw [updF_some hp hx]
    have hi := lt_of_get? hx
    by_cases ho : off < 0
    · refine walk ho ?_
      exact ⟨by simp [ho], Upd.of hk, by simpa [ho] using h1⟩
    · obtain ⟨b, o, c, rfl, hb1, hb2, hb3, hb4, r0, r3, r4, r5⟩ := h1.file hx
      refine walk (both ho (both ht (both hb2 r3))) ?_
      obtain ⟨q1, q2⟩ := h1.put (k := 3) (v := .int .i64 off) (y := { x with off := off }) hb2 hx (by decide) rfl
      rw [List.length_set] at q1
      exact ⟨by simp [ho], (Upd.of hk).trans q2 fun z _ h => h, by simpa [ho] using q1⟩
theorem room_ok {H : Heap} {p : Nat} {slv : AV} {l : List FileT} {next most : Int} (h : TabR H 55 p slv l next most) (g : GoodF l next most) :
    Cl Try.prog pr12 16 [.ptr (some (p, 0))] H fun w H' => w = .int .i64 (most - l.length) ∧ H' = H := by
  have ht := h.t
  have hf := g.fit
  obtain ⟨a, cap, ex, rfl, hc, hex⟩ := h.own.form
  refine Cl.enter Try.func16 rfl rfl Try.ntmps16 (by simp) ?_
  refine walk ht ?_
  refine Wq.regionD [0, 1, 2, 3, 4, 5, 6, 7, 8, 9, 10] (by kernel_rfl) ?_
  refine walk ht ?_
  exact ⟨rfl, rfl⟩
theorem numbers_ok {H : Heap} {p : Nat} {slv : AV} {l : List FileT} {next most : Int} (h : TabR H 55 p slv l next most) :
    Cl Try.prog pr12 17 [.ptr (some (p, 0))] H fun w H' => w = .int .i64 next ∧ H' = H := by
  have ht := h.t
  obtain ⟨a, cap, ex, rfl, hc, hex⟩ := h.own.form
  refine Cl.enter Try.func17 rfl rfl Try.ntmps17 (by simp) ?_
  refine walk ht ?_
  exact ⟨rfl, rfl⟩
theorem clone_ok {H : Heap} {v : AV} {n : Nat} {c : List AV} (h : Sl H 6 v n c) (h1 : c.all AV.one = true) (hn : n ≤ 1000) :
    Cl Try.prog pr12 25 [v] H fun w H' => Fresh H H' 39 6 w n c := by
  obtain ⟨a, cap, ex, rfl, hc, _⟩ := h.form
  have hlen := h.len
  refine Cl.enter Try.func25 rfl rfl Try.ntmps25 (by simp) ?_
  cases a with
  | none =>
    obtain rfl : n = 0 := by
      rcases Nat.eq_zero_or_pos n with h0 | h0
      · exact h0
      · obtain ⟨b, o, c, t, w, m, e, _⟩ := h.at h0; cases e
    obtain rfl : c = [] := List.eq_nil_of_length_eq_zero (by omega)
    refine walk none0 ?_
    exact Fresh.nil Upd.rfl
  | some p =>
    refine walk none0 ?_
    refine Oq.append (own := (OwnSl.mk (n := 0) (cs := []) (by simp) (by simp) (by simp))) (new := c) (m := n) (by simp (disch := omega) [hlen, -getElem?_pos, wrapI64, tdivN, tmodN, ipos, ineg, dpos, dneg, slc_l, slc_h, slc_lh, slc_hm, slc_lhm, slc_0, slcR_some, slcR_none, cutS_ok, cutA_ok, byteAt_ok]; first | done | (repeat' (first | rfl | apply And.intro))) ⟨_, rfl, by simp; first | done | (repeat' (first | rfl | apply And.intro))⟩ rfl (by kernel_rfl) (by kernel_rfl) ((h.push _).src') hlen h1 (by omega) (by omega) fun v' H' o1 b1 s1 => ?_
    rw [Nat.zero_add, List.nil_append] at o1
    refine walk none0 ?_
    exact (Fresh.made (H0 := H) (cs := []) (n := 0) (elem := 39) (s := 6) (Upd.rfl.push _) (by simp) (Nat.le_refl _) (by simp) (by simp)).app o1 b1 s1
theorem dump_ok {H : Heap} {p : Nat} {slv : AV} {l : List FileT} {next most : Int} (h : TabR H 55 p slv l next most) (g : GoodF l next most) :
    Cl Try.prog pr12 12 [.ptr (some (p, 0))] H fun w H' => Fresh H H' 39 6 w l.length (flat encF l) := by
  have ht := h.t
  have hf := g.fit
  have hs := h.own.sl
  obtain ⟨a, cap, ex, rfl, hc, hex⟩ := h.own.form
  refine Cl.enter Try.func12 rfl rfl Try.ntmps12 (by simp) ?_
  refine walk ht ?_
  refine (clone_ok hs (flatF_one l) (by omega)).mono fun w H1 _ hF => ?_
  obtain ⟨wa, wx, rfl, _⟩ := hF.own.form
  refine walk none0 ?_
  exact hF
theorem get_ok {H : Heap} {p : Nat} {slv : AV} {l : List FileT} {next most : Int} (h : TabR H 55 p slv l next most) (g : GoodF l next most) (id : Int) :
    Cl Try.prog pr12 18 [.ptr (some (p, 0)), .int .i64 id] H fun w H' => (∃ x t, w = .tuple [.agg (encF x), .bool t] ∧ ((t = true ∧ ∃ i, placeF l id = some i ∧ l[i]? = some x) ∨ (t = false ∧ placeF l id = none ∧ x = ⟨0, 0, 0, 0, 0, 0⟩))) ∧ Keep H H' := by
  have hf := g.fit
  refine Cl.enter Try.func18 rfl rfl Try.ntmps18 (by simp) ?_
  refine walk none0 ?_
  have k0 : Keep H (H.push (.cells [.int .i64 0, .int .i64 0, .int .i64 0, .int .i64 0, .int .i64 0, .int .i64 0] 39 true false)) := Upd.rfl.push _
  refine (at_ok (h.kept k0) g id).mono fun w H1 _ ⟨e1, hk⟩ => ?_
  subst e1
  have h1 := (h.kept k0).kept hk
  have ht := h1.t
  have gt := (hk.get (show H.next < (H.push (.cells [.int .i64 0, .int .i64 0, .int .i64 0, .int .i64 0, .int .i64 0, .int .i64 0] 39 true false)).next by simp)).trans (Heap.get_push H H.next _ ▸ if_pos rfl)
  have hn1 := hk.next
  simp at hn1
  obtain ⟨a, cap, ex, rfl, hc, hex⟩ := h.own.form
  cases hp : placeF l id with
  | none =>
    refine walk gt ?_
    exact ⟨⟨⟨0, 0, 0, 0, 0, 0⟩, false, rfl, .inr ⟨rfl, rfl, rfl⟩⟩, (k0.then hk).set _ (by omega) (by omega)⟩
  | some i =>
    obtain ⟨x, hx, hid⟩ := place_at hp
    have hi := lt_of_get? hx
    obtain ⟨b, o, c, rfl, hb1, hb2, hb3, hb4, r0, r3, r4, r5⟩ := h1.file hx
    unfold encF at hb4
    refine walk (both ht (both hb2 (both hb4 gt))) ?_
    exact ⟨⟨x, true, rfl, .inl ⟨rfl, i, rfl, hx⟩⟩, (k0.then hk).set _ (by omega) (by omega)⟩
end Go.Abs

/- Chapter 12: flags. -/
namespace Go.Abs
open Go.Proofs
set_option maxRecDepth 100000
set_option linter.unusedVariables false
set_option linter.unusedSimpArgs false

theorem bits64 : IntKind.i64.bits = 64 := rfl
theorem wrap_small {z : Int} (h0 : 0 ≤ z) (h1 : z ≤ 1000) : IntKind.i64.wrap z = z := wrapI64 ⟨by omega, by omega⟩
theorem wrap_zero {v : Nat} (h : v < 2 ^ 64) : IntKind.i64.wrap (v : Int) = 0 ↔ v = 0 := by
  unfold IntKind.wrap
  simp only [IntKind.signed, IntKind.bits]
  simp
  omega
theorem and_low (u : Nat) (m : Nat) (hm : 15 &&& m = m) : u &&& m = (u % 16) &&& m := by
  have h : u % 16 = u &&& 15 := (Nat.and_two_pow_sub_one_eq_mod u 4).symm
  rw [h, Nat.and_assoc, hm]
theorem and_high {u : Nat} (hu : u < 2 ^ 64) : u &&& (2 ^ 64 - 16) = u / 16 * 16 := by
  apply Nat.eq_of_testBit_eq
  intro i
  have e : (2 : Nat) ^ 64 - 16 = (2 ^ 60 - 1) * 2 ^ 4 := by decide
  have e2 : u / 16 * 16 = (u / 2 ^ 4) * 2 ^ 4 := rfl
  rw [Nat.testBit_and, e, e2, Nat.testBit_mul_two_pow, Nat.testBit_mul_two_pow, Nat.testBit_two_pow_sub_one, Nat.testBit_div_two_pow]
  by_cases h4 : 4 ≤ i
  · by_cases h64 : i < 64
    · simp [h4, show i - 4 < 60 by omega, show i - 4 + 4 = i by omega]
    · have : u.testBit i = false := Nat.testBit_lt_two_pow (Nat.lt_of_lt_of_le hu (Nat.pow_le_pow_right (by decide) (by omega)))
      simp [h4, this, show i - 4 + 4 = i by omega]
  · simp [h4]
theorem mod64 {f : Int} (hf : In64 f) : ((f % 2 ^ 64).toNat : Int) = if 0 ≤ f then f else f + 18446744073709551616 := by
  unfold In64 at hf
  split <;> omega
theorem fits15 {f : Int} (hf : In64 f) : (IntKind.i64.wrap ↑((f % 2 ^ IntKind.i64.bits).toNat &&& 2 ^ IntKind.i64.bits - 1 - 15 % 2 ^ IntKind.i64.bits) = 0) = (0 ≤ f ∧ f ≤ 15) := by
  apply propext
  rw [bits64]
  have hm := mod64 hf
  have hu : (f % 2 ^ 64).toNat < 2 ^ 64 := by omega
  have e : (2 : Nat) ^ 64 - 1 - 15 % 2 ^ 64 = 2 ^ 64 - 16 := by decide
  rw [e, and_high hu, wrap_zero (by omega)]
  unfold In64 at hf
  split at hm <;> omega
theorem fits3 {f : Int} (hf : In64 f) : (IntKind.i64.wrap ↑((f % 2 ^ IntKind.i64.bits).toNat &&& 3 % 2 ^ IntKind.i64.bits)) = f % 4 := by
  rw [bits64]
  have e : (3 : Nat) % 2 ^ 64 = 2 ^ 2 - 1 := by decide
  rw [e, Nat.and_two_pow_sub_one_eq_mod]
  have hm := mod64 hf
  rw [wrap_small (by omega) (by omega)]
  split at hm <;> omega
theorem bitv {n : Int} (hn : In64 n) (k : Nat) (hk : k ≤ 3) : (IntKind.i64.wrap (((n / 2 ^ k % 2 ^ 64).toNat &&& 1 : Nat) : Int)) = n / 2 ^ k % 2 := by
  rw [Nat.and_one_is_mod, wrap_small (by omega) (by omega)]
  omega
def newFl (old fl : Int) : Int := old % 4 + (if fl / 4 % 2 = 1 then 4 else 0) + (if fl / 8 % 2 = 1 then 8 else 0)
theorem newFl_nat : ∀ x < 16, ∀ f < 16, ((x &&& (2 ^ 64 - 13)) ||| (f &&& 12) : Nat) = x % 4 + (if f / 4 % 2 = 1 then 4 else 0) + (if f / 8 % 2 = 1 then 8 else 0) := by decide +kernel
theorem newFl_eq {x fl : Int} (hx0 : 0 ≤ x) (hx : x ≤ 15) (hf : In64 fl) :
    IntKind.i64.wrap ↑((IntKind.i64.wrap ↑((x % 2 ^ IntKind.i64.bits).toNat &&& 2 ^ IntKind.i64.bits - 1 - 12 % 2 ^ IntKind.i64.bits) % 2 ^ IntKind.i64.bits).toNat ||| (IntKind.i64.wrap ↑((fl % 2 ^ IntKind.i64.bits).toNat &&& 12 % 2 ^ IntKind.i64.bits) % 2 ^ IntKind.i64.bits).toNat) = newFl x fl := by
  rw [bits64]
  have hm := mod64 hf
  have e : (2 : Nat) ^ 64 - 1 - 12 % 2 ^ 64 = 2 ^ 64 - 13 := by decide
  have e2 : (12 : Nat) % 2 ^ 64 = 12 := by decide
  have e5 : (fl % 2 ^ 64).toNat &&& 12 = ((fl % 2 ^ 64).toNat % 16) &&& 12 := and_low _ 12 (by decide)
  rw [e, e2, e5]
  obtain ⟨a, ha⟩ : ∃ a : Nat, (x % 2 ^ 64).toNat = a := ⟨_, rfl⟩
  obtain ⟨b, hb⟩ : ∃ b : Nat, (fl % 2 ^ 64).toNat % 16 = b := ⟨_, rfl⟩
  rw [ha, hb]
  have ha16 : a < 16 := by omega
  have hb16 : b < 16 := by omega
  have h1 : (a &&& (2 ^ 64 - 13)) ≤ a := Nat.and_le_left
  have h2 : (b &&& 12) ≤ b := Nat.and_le_left
  rw [wrap_small (z := ((a &&& (2 ^ 64 - 13) : Nat) : Int)) (by omega) (by omega), wrap_small (z := ((b &&& 12 : Nat) : Int)) (by omega) (by omega)]
  have e6 : (((a &&& (2 ^ 64 - 13) : Nat) : Int) % 2 ^ 64).toNat = (a &&& (2 ^ 64 - 13)) := by omega
  have e7 : (((b &&& 12 : Nat) : Int) % 2 ^ 64).toNat = (b &&& 12) := by omega
  rw [e6, e7]
  rw [newFl_nat a ha16 b hb16]
  have hax : (a : Int) = x := by omega
  have e4 : (fl / 4 % 2 = 1) ↔ (b / 4 % 2 = 1) := by split at hm <;> omega
  have e8 : (fl / 8 % 2 = 1) ↔ (b / 8 % 2 = 1) := by split at hm <;> omega
  unfold newFl
  rw [wrap_small (by omega) (by split <;> split <;> omega)]
  by_cases q4 : b / 4 % 2 = 1 <;> by_cases q8 : b / 8 % 2 = 1 <;> simp [e4, e8, q4, q8] <;> omega
end Go.Abs

/- Chapter 12: SetFlags, Open, Drop, walked. -/
namespace Go.Abs
open Go.Proofs
set_option maxRecDepth 100000
set_option linter.unusedVariables false
set_option linter.unusedSimpArgs false

theorem setFlags_ok {H : Heap} {p : Nat} {slv : AV} {l : List FileT} {next most : Int} (h : TabR H 55 p slv l next most) (g : GoodF l next most) (id fl : Int) (hfl : In64 fl) :
    Cl Try.prog pr12 21 [.ptr (some (p, 0)), .int .i64 id, .int .i64 fl] H fun w H' => w = .int .i64 (updF l id fun x => { x with flags := newFl x.flags fl }).2 ∧ Upd (fun z => slBlock slv = some z) H H' ∧ TabR H' 55 p slv (updF l id fun x => { x with flags := newFl x.flags fl }).1 next most := by
  refine Cl.enter Try.func21 rfl rfl Try.ntmps21 (by simp) ?_
  refine walk none0 ?_
  refine (at_ok h g id).mono fun w H1 _ ⟨e1, hk⟩ => ?_
  subst e1
  have h1 := h.kept hk
  have ht := h1.t
  have hf := g.fit
  obtain ⟨a, cap, ex, rfl, hc, hex⟩ := h.own.form
  cases hp : placeF l id with
  | none =>
    rw [updF_none hp]
    refine walk none0 ?_
    exact ⟨rfl, Upd.of hk, h1⟩
  | some i =>
    obtain ⟨x, hx, hid⟩ := place_at hp
    rw [updF_some hp hx]
    have hi := lt_of_get? hx
    have hfx := g.flg x (List.mem_of_getElem? hx)
    have hnf := newFl_eq hfx.1 hfx.2 hfl
    obtain ⟨b, o, c, rfl, hb1, hb2, hb3, hb4, r0, r3, r4, r5⟩ := h1.file hx
    refine walk none0 ?_
    refine Wq.regionD [0, 1, 2, 3, 4, 5, 6, 7, 8, 9, 10, 11, 12, 13, 14, 15, 16, 17, 18, 19] (by kernel_rfl) ?_
    refine walk (both ht (both hb2 (both r4 hnf))) ?_
    obtain ⟨q1, q2⟩ := h1.put (k := 4) (v := .int .i64 (newFl x.flags fl)) (y := { x with flags := newFl x.flags fl }) hb2 hx (by decide) rfl
    rw [List.length_set] at q1
    exact ⟨rfl, (Upd.of hk).trans q2 fun z _ h => h, q1⟩

def FitsF (k o f : Int) : Prop := (k = 1 ∨ k = 2 ∨ k = 5 ∨ k = 6 ∨ k = 7) ∧ 0 < o ∧ 0 ≤ f ∧ f ≤ 15 ∧ f % 4 ≠ 3
instance (k o f : Int) : Decidable (FitsF k o f) := by unfold FitsF; infer_instance
theorem fits_ok (k o f : Int) (H : Heap) (hf : In64 f) : Cl Try.prog pr12 22 [.int .i64 k, .int .i64 o, .int .i64 f] H fun w H' => w = .bool (decide (FitsF k o f)) ∧ H' = H := by
  have e15 := fits15 hf
  have e3 := fits3 hf
  refine Cl.enter Try.func22 rfl rfl Try.ntmps22 (by simp) ?_
  refine Wq.seq ?_
  refine walkr none0 ?_
  refine Wq.seq ?_
  refine Wq.seq ?_
  refine walkr none0 ?_
  refine Wq.seq (Wq.mono (Q := fun z e Hx => z = .normal ∧ Hx = H ∧ e 0 = .int .i64 k ∧ e 1 = .int .i64 o ∧ e 2 = .int .i64 f ∧ e 8 = .bool (decide (k = 1 ∨ k = 2 ∨ k = 5 ∨ k = 6 ∨ k = 7))) ?_ ?_)
  · by_cases h1 : k = 1
    · refine walk h1 ?_
      exact ⟨rfl, rfl, by simp [h1], by simp, by simp, by simp [h1]⟩
    · by_cases h2 : k = 2
      · refine walk (both h1 h2) ?_
        exact ⟨rfl, rfl, by simp [h2], by simp, by simp, by simp [h2]⟩
      · by_cases h5 : k = 5
        · refine walk (both h1 (both h2 h5)) ?_
          exact ⟨rfl, rfl, by simp [h5], by simp, by simp, by simp [h5]⟩
        · by_cases h6 : k = 6
          · refine walk (both h1 (both h2 (both h5 h6))) ?_
            exact ⟨rfl, rfl, by simp [h6], by simp, by simp, by simp [h6]⟩
          · by_cases h7 : k = 7
            · refine walk (both h1 (both h2 (both h5 (both h6 h7)))) ?_
              exact ⟨rfl, rfl, by simp [h7], by simp, by simp, by simp [h7]⟩
            · refine walk (both h1 (both h2 (both h5 (both h6 h7)))) ?_
              exact ⟨rfl, rfl, by simp, by simp, by simp, by simp [h1, h2, h5, h6, h7]⟩
  · rintro z e Hx _ ⟨rfl, e', g0, g1, g2, g8⟩
    obtain rfl : H = Hx := e'.symm
    refine Thenq.normal ?_
    by_cases hk : k = 1 ∨ k = 2 ∨ k = 5 ∨ k = 6 ∨ k = 7
    · have hkt : decide (k = 1 ∨ k = 2 ∨ k = 5 ∨ k = 6 ∨ k = 7) = true := decide_eq_true hk
      rw [hkt] at g8
      by_cases ho : 0 < o
      · by_cases hff : 0 ≤ f ∧ f ≤ 15
        · have e15' : (IntKind.i64.wrap ↑((f % 2 ^ IntKind.i64.bits).toNat &&& 2 ^ IntKind.i64.bits - 1 - 15 % 2 ^ IntKind.i64.bits) = 0) = True := by rw [e15]; exact eq_true hff
          by_cases h3 : f % 4 = 3
          · refine walk (both g0 (both g1 (both g2 (both g8 (both ho (both e15' (both e3 h3))))))) ?_
            have : ¬ FitsF k o f := fun h => h.2.2.2.2 h3
            exact ⟨by simp [this], rfl⟩
          · refine walk (both g0 (both g1 (both g2 (both g8 (both ho (both e15' (both e3 h3))))))) ?_
            have : FitsF k o f := ⟨hk, ho, hff.1, hff.2, h3⟩
            exact ⟨by simp [this], rfl⟩
        · have e15' : (IntKind.i64.wrap ↑((f % 2 ^ IntKind.i64.bits).toNat &&& 2 ^ IntKind.i64.bits - 1 - 15 % 2 ^ IntKind.i64.bits) = 0) = False := by rw [e15]; exact eq_false hff
          refine walk (both g0 (both g1 (both g2 (both g8 (both ho e15'))))) ?_
          have : ¬ FitsF k o f := fun h => hff ⟨h.2.2.1, h.2.2.2.1⟩
          exact ⟨by simp [this], rfl⟩
      · refine walk (both g0 (both g1 (both g2 (both g8 ho)))) ?_
        have : ¬ FitsF k o f := fun h => ho h.2.1
        exact ⟨by simp [this], rfl⟩
    · have hkt : decide (k = 1 ∨ k = 2 ∨ k = 5 ∨ k = 6 ∨ k = 7) = false := decide_eq_false hk
      rw [hkt] at g8
      refine walk (both g0 (both g1 (both g2 g8))) ?_
      have : ¬ FitsF k o f := fun h => hk h.1
      exact ⟨by simp [this], rfl⟩

structure OpenT where
  l : List FileT
  next : Int
  n : Int
  e : Int
def openF (l : List FileT) (next most k o f : Int) : OpenT :=
  if ¬ FitsF k o f then ⟨l, next, 0, 22⟩ else if most ≤ l.length then ⟨l, next, 0, 23⟩ else ⟨l ++ [⟨next, k, o, 0, f, 1⟩], next + 1, next, 0⟩
/-- The array's block is the one that it was, or new. -/
abbrev Fro (H : Heap) (slv slv' : AV) : Prop := ∀ z, slBlock slv' = some z → slBlock slv = some z ∨ H.next ≤ z
theorem flatF_snoc (l : List FileT) (x : FileT) : flat encF (l ++ [x]) = flat encF l ++ encF x := by simp [flat]
/-- A table whose list has grown at its end. -/
theorem TabR.grow {H H1 H2 : Heap} {tt : TypeId} {p : Nat} {slv v' : AV} {l : List FileT} {next most : Int} {x : FileT} (h : TabR H tt p slv l next most) (kk : Keep H H1) (o : OwnG H2 39 6 v' (l.length + 1) (flat encF l ++ encF x)) (b : ButOne (slBlock slv) H1 H2) (hs : slBlock v' = slBlock slv ∨ slBlock v' = some H1.next) (next' : Int) :
    H2.get p = some (.cells [slv, .int .i64 next, .int .i64 most] tt true false) ∧ p < H2.next ∧ Fro H slv v' ∧ ∀ H3, H3.get p = some (.cells [v', .int .i64 next', .int .i64 most] tt true false) → Upd (fun z => z = p) H2 H3 → TabR H3 tt p v' (l ++ [x]) next' most ∧ Upd (fun z => z = p ∨ slBlock slv = some z) H H3 := by
  have hk := kk.next
  have hb := b.1
  have hp := h.plt
  have hap := h.apart
  have hg : H2.get p = some (.cells [slv, .int .i64 next, .int .i64 most] tt true false) := by
    rw [b.2.2 p (by omega) (fun e => hap e.symm), kk.get hp]; exact h.t
  have hvp : slBlock v' ≠ some p := by
    rcases hs with e | e
    · rw [e]; exact hap
    · rw [e]; intro e; injection e with e; omega
  have u : Upd (fun z => z = p ∨ slBlock slv = some z) H H2 := (Upd.of kk).butOne b fun z hz _ => .inr hz
  have hlt := o.sl
  refine ⟨hg, by omega, fun z hz => ?_, fun H3 h3 u3 => ⟨⟨h3, ?_, hvp, fun z hz => ?_, by have := u3.1; omega⟩, u.trans u3 fun z _ h => .inl h⟩⟩
  · rcases hs with e | e
    · exact .inl (e ▸ hz)
    · rw [e] at hz; injection hz with hz; exact .inr (by omega)
  · rw [List.length_append, flatF_snoc]
    exact o.keep (by have := u3.1; omega) fun z hz hlt => u3.keep z hlt (fun e => hvp (by rw [← e]; exact hz))
  · obtain ⟨a, cap, ex, rfl, _⟩ := o.form
    obtain ⟨b', o', c', e, _, _, hl, _⟩ := o.at (by omega)
    subst e
    have := u3.1
    simp [slBlock] at hz; subst hz; omega
theorem open_ok {H : Heap} {p : Nat} {slv : AV} {l : List FileT} {next most : Int} (h : TabR H 55 p slv l next most) (g : GoodF l next most) (hn : next ≤ 100000) (k o f : Int) (hf : In64 f) :
    Cl Try.prog pr12 8 [.ptr (some (p, 0)), .int .i64 k, .int .i64 o, .int .i64 f] H fun w H' => w = .tuple [.int .i64 (openF l next most k o f).n, .int .i64 (openF l next most k o f).e] ∧ ∃ slv', Upd (fun z => z = p ∨ slBlock slv = some z) H H' ∧ Fro H slv slv' ∧ TabR H' 55 p slv' (openF l next most k o f).l (openF l next most k o f).next most := by
  have ht := h.t
  have hg := g.fit
  have hnx := g.nxt
  refine Cl.enter Try.func8 rfl rfl Try.ntmps8 (by simp) ?_
  refine walk none0 ?_
  refine (fits_ok k o f H hf).mono fun w H1 _ ⟨e1, e2⟩ => ?_
  subst e1; subst e2
  obtain ⟨a, cap, ex, rfl, hc, hex⟩ := h.own.form
  by_cases hfit : FitsF k o f
  · have hdt : decide (FitsF k o f) = true := decide_eq_true hfit
    refine walk hdt ?_
    refine Wq.regionD [0, 1, 2, 3, 4, 5, 6, 7, 8, 9, 10] (by kernel_rfl) ?_
    by_cases hfull : most ≤ (l.length : Int)
    · refine walk (both hdt (both ht hfull)) ?_
      have e : openF l next most k o f = ⟨l, next, 0, 23⟩ := by simp only [openF]; rw [if_neg (fun h => h hfit), if_pos hfull]
      rw [e]
      exact ⟨rfl, _, Upd.rfl, fun z hz => .inl hz, h⟩
    · refine walk (both hdt (both ht hfull)) ?_
      refine Wq.regionD [1, 2, 3, 4, 5, 6, 7, 8, 9, 10, 11, 12, 13, 14, 0, 15, 16, 17] (by kernel_rfl) ?_
      refine walk ht ?_
      have kk : Keep H1 (H1.push (.cells (encF ⟨next, k, o, 0, f, 1⟩) 39 true false)) := Upd.rfl.push _
      refine Oq.appendG (own := (h.own.kept kk)) (new := (encF ⟨next, k, o, 0, f, 1⟩)) (m := 1) (by simp (disch := omega) [encF, -getElem?_pos, wrapI64, tdivN, tmodN, ipos, ineg, dpos, dneg, slc_l, slc_h, slc_lh, slc_hm, slc_lhm, slc_0, slcR_some, slcR_none, cutS_ok, cutA_ok, byteAt_ok]; first | done | (repeat' (first | rfl | apply And.intro))) ⟨_, rfl, by simp; first | done | (repeat' (first | rfl | apply And.intro))⟩ rfl (by kernel_rfl) (by kernel_rfl) (by refine ⟨by simp, ?_⟩; simp (disch := omega) [srcCells, cellsAt, encF, -getElem?_pos, wrapI64, tdivN, tmodN, ipos, ineg, dpos, dneg, slc_l, slc_h, slc_lh, slc_hm, slc_lhm, slc_0, slcR_some, slcR_none, cutS_ok, cutA_ok, byteAt_ok]; first | done | rfl) rfl rfl (by omega) (by omega) fun w1 H2 o1 b1 s1 => ?_
      obtain ⟨q1, q2, q3, q4⟩ := h.grow kk o1 b1 s1 (next + 1)
      obtain ⟨wa, wc, wx, rfl, _⟩ := o1.form
      refine walk q1 ?_
      have e : openF l next most k o f = ⟨l ++ [⟨next, k, o, 0, f, 1⟩], next + 1, next, 0⟩ := by simp only [openF]; rw [if_neg (fun h => h hfit), if_neg hfull]
      rw [e]
      obtain ⟨r1, r2⟩ := q4 _ (Heap.get_set_same _ _ _) (((Upd.rfl (fp := fun z => z = p)).set _ q2 fun _ => rfl).set _ (by simpa using q2) fun _ => rfl)
      exact ⟨rfl, _, r2, q3, r1⟩
  · have hdt : decide (FitsF k o f) = false := decide_eq_false hfit
    refine walk hdt ?_
    have e : openF l next most k o f = ⟨l, next, 0, 22⟩ := by simp only [openF]; rw [if_pos hfit]
    rw [e]
    exact ⟨rfl, _, Upd.rfl, fun z hz => .inl hz, h⟩
end Go.Abs

/- Chapter 12: Delete, Drop, walked. -/
namespace Go.Abs
open Go.Proofs
set_option maxRecDepth 100000
set_option linter.unusedVariables false
set_option linter.unusedSimpArgs false

theorem flat_takeN {α : Type} {enc : α → List AV} {s : Nat} (hs : ∀ x, (enc x).length = s) : ∀ (l : List α) (i : Nat), flat enc (l.take i) = (flat enc l).take (i * s)
  | [], i => by simp [flat]
  | x :: l, 0 => by simp [flat]
  | x :: l, i + 1 => by
    have := flat_takeN hs l i
    simp only [flat, List.take_succ_cons, List.flatMap_cons] at this ⊢
    rw [this, List.take_append, hs, List.take_of_length_le (l := enc x) (by rw [hs, Nat.add_mul]; omega), show (i + 1) * s - s = i * s by rw [Nat.add_mul]; omega]
theorem flat_dropN {α : Type} {enc : α → List AV} {s : Nat} (hs : ∀ x, (enc x).length = s) : ∀ (l : List α) (i : Nat), flat enc (l.drop i) = (flat enc l).drop (i * s)
  | [], i => by simp [flat]
  | x :: l, 0 => by simp [flat]
  | x :: l, i + 1 => by
    have := flat_dropN hs l i
    simp only [flat, List.drop_succ_cons, List.flatMap_cons] at this ⊢
    rw [this, List.drop_append, hs, List.drop_of_length_le (l := enc x) (by rw [hs, Nat.add_mul]; omega), show (i + 1) * s - s = i * s by rw [Nat.add_mul]; omega, List.nil_append]
theorem deleteF_ok {H : Heap} {b o cap i : Nat} {ex : Option Nat} {l : List FileT} {c : List AV} (h : OwnG H 39 6 (.slice (some (b, o)) l.length cap ex) l.length (flat encF l)) (hg : H.get b = some (.cells c 39 true false)) (hb : b < H.next) (hi : i < l.length) (hn : l.length ≤ 1000) :
    Cl Try.prog pr12 24 [.slice (some (b, o)) l.length cap ex, .int .i64 i, .int .i64 ((i : Int) + 1)] H fun w H' => w = .slice (some (b, o)) (l.eraseIdx i).length cap ex ∧ Upd (fun z => some b = some z) H H' ∧ OwnG H' 39 6 (.slice (some (b, o)) (l.eraseIdx i).length cap ex) (l.eraseIdx i).length (flat encF (l.eraseIdx i)) := by
  obtain ⟨b', o', c', e, h0, h1, h2, h3, h4, h5, h6⟩ := h.at (by omega)
  simp only [Option.some.injEq, Prod.mk.injEq] at e
  obtain ⟨rfl, rfl⟩ := e
  rw [hg] at h3
  injection h3 with h3; injection h3 with h3 _
  subst h3
  have hf := flatF_len l
  refine Cl.enter Try.func24 rfl rfl Try.ntmps24 (by simp) ?_
  refine walk none0 ?_
  refine Wq.regionD [0, 1, 2, 3, 4, 5, 6, 7] (by kernel_rfl) ?_
  refine walk none0 ?_
  generalize hM : ((l.length : Int) - ((i : Int) + 1)).toNat = M
  generalize hC : ((cap : Int) - ((i : Int) + 1)).toNat = C
  have hMl : M = l.length - (i + 1) := by omega
  have hs := h.sl.sub (k := i + 1) (m := M) (cap' := C) (ex' := ex) (by omega) (by omega) h1
  have hl6 : l.length * 6 = i * 6 + 6 + M * 6 := by omega
  have hl7 : (i + 1) * 6 = i * 6 + 6 := by omega
  have hc6 : i * 6 + M * 6 + 6 ≤ cap * 6 := by omega
  have hsl : ((flat encF l).drop ((i + 1) * 6)).take (M * 6) = (flat encF l).drop ((i + 1) * 6) := List.take_of_length_le (by rw [List.length_drop]; omega)
  rw [hsl] at hs
  refine Oq.appendFit (new := ((flat encF l).drop ((i + 1) * 6))) (m := M) (by simp (disch := omega) [-getElem?_pos, wrapI64, tdivN, tmodN, ipos, ineg, dpos, dneg, slc_l, slc_h, slc_lh, slc_hm, slc_lhm, slc_0, slcR_some, slcR_none, cutS_ok, cutA_ok, byteAt_ok]; first | done | (repeat' (first | rfl | apply And.intro))) ⟨_, rfl, by simp; first | done | (repeat' (first | rfl | apply And.intro))⟩ rfl (by kernel_rfl) (by kernel_rfl) (hb) (hg) (by omega) (by omega) (hs.src') (hs.len) ((List.all_eq_true.2 fun x hx => List.all_eq_true.1 (flatF_one l) x (List.mem_of_mem_drop hx))) fun H1 g1 u1 => ?_
  have u1n := u1.next
  refine walk none0 ?_
  have e1 : ((i : Int) + (M : Int)).toNat = i + M := by omega
  have e2 : ((l.length : Int) - ((i : Int) + (M : Int))).toNat = 1 := by omega
  rw [e1, e2]
  have hA : (c.take (o + i * 6)).length = o + i * 6 := List.length_take_of_le (by omega)
  have hB : ((flat encF l).drop ((i + 1) * 6)).length = M * 6 := hs.len
  have hcl : (c.take (o + i * 6) ++ ((flat encF l).drop ((i + 1) * 6) ++ c.drop (o + i * 6 + M * 6))).length = c.length := by
    rw [List.length_append, List.length_append, hA, hB, List.length_drop]; omega
  generalize hcd : c.take (o + i * 6) ++ ((flat encF l).drop ((i + 1) * 6) ++ c.drop (o + i * 6 + M * 6)) = cd at *
  refine Oq.clearG (b := b) (o := o + (i + M) * 6) (k := 1) (cd := cd) (by simp; first | done | (repeat' (first | rfl | apply And.intro))) ⟨_, rfl, by simp; first | done | (repeat' (first | rfl | apply And.intro))⟩ (by omega) (by omega) g1 (by omega) rfl ?_
  refine walk none0 ?_
  have hlen : (l.eraseIdx i).length = i + M := by rw [List.length_eraseIdx_of_lt hi]; omega
  rw [hlen]
  refine ⟨rfl, Upd.rfl.trans (u1.set _ (by omega) fun _ => rfl) fun z _ e => by rw [e], ?_⟩
  have hcdA : (cd.drop o).take ((i + M) * 6) = flat encF (l.eraseIdx i) := by
    rw [List.eraseIdx_eq_take_drop_succ, flat_app, flat_takeN encF_len, flat_dropN encF_len, ← hcd, List.drop_append_of_le_length (by omega), ← List.append_assoc, List.take_append_of_le_length]
    · rw [List.take_of_length_le (by rw [List.length_append, List.length_drop, hA, hB]; omega), ← h6, List.drop_take, List.take_take, Nat.min_eq_left (by omega)]
      congr 2
      omega
    · rw [List.length_append, List.length_drop, hA, hB]; omega
  have hT : (cd.take (o + (i + M) * 6)).length = o + (i + M) * 6 := List.length_take_of_le (by omega)
  have hfin := OwnG.refill (H' := H1.set b (AObj.cells (List.take (o + (i + M) * 6) cd ++ AV.int IntKind.i64 0 :: AV.int IntKind.i64 0 :: AV.int IntKind.i64 0 :: AV.int IntKind.i64 0 :: AV.int IntKind.i64 0 :: AV.int IntKind.i64 0 :: List.drop (o + (i + M) * 6 + 6) cd) 39 true false)) (elem := 39) (s := 6) (n := i + M) (cap := cap) (o := o) (ex := ex) (b := b) (by omega) h1 (by simp; omega) (Heap.get_set_same _ _ _) (by simp only [List.length_append, List.length_cons, List.length_drop, hT]; omega)
  rw [List.drop_append_of_le_length (by omega), List.take_append_of_le_length (by rw [List.length_drop]; omega), List.drop_take, Nat.add_sub_cancel_left, List.take_take, Nat.min_self, hcdA] at hfin
  exact hfin
structure DropT where
  l : List FileT
  t : Bool
  e : Int
def dropF (l : List FileT) (id : Int) : DropT := match placeF l id with
  | none => ⟨l, false, 9⟩
  | some i => match l[i]? with
    | some x => if 1 < x.refs then ⟨l.set i { x with refs := x.refs - 1 }, false, 0⟩ else ⟨l.eraseIdx i, true, 0⟩
    | none => ⟨l, false, 9⟩
theorem dropF_none {l : List FileT} {id : Int} (h : placeF l id = none) : dropF l id = ⟨l, false, 9⟩ := by simp [dropF, h]
theorem dropF_more {l : List FileT} {id : Int} {i : Nat} {x : FileT} (h : placeF l id = some i) (hx : l[i]? = some x) (h1 : 1 < x.refs) : dropF l id = ⟨l.set i { x with refs := x.refs - 1 }, false, 0⟩ := by simp [dropF, h, hx, h1]
theorem dropF_last {l : List FileT} {id : Int} {i : Nat} {x : FileT} (h : placeF l id = some i) (hx : l[i]? = some x) (h1 : ¬ 1 < x.refs) : dropF l id = ⟨l.eraseIdx i, true, 0⟩ := by simp [dropF, h, hx, h1]
theorem erase_set {α : Type} {l : List α} {i : Nat} {x : α} : (l.set i x).eraseIdx i = l.eraseIdx i := by
  induction l generalizing i with
  | nil => rfl
  | cons a l ih => cases i with
    | zero => rfl
    | succ i => simp [List.eraseIdx_cons_succ, ih]
theorem drop_ok {H : Heap} {p : Nat} {slv : AV} {l : List FileT} {next most : Int} (h : TabR H 55 p slv l next most) (g : GoodF l next most) (hn : next ≤ 100000) (id : Int) :
    Cl Try.prog pr12 11 [.ptr (some (p, 0)), .int .i64 id] H fun w H' => w = .tuple [.bool (dropF l id).t, .int .i64 (dropF l id).e] ∧ ∃ slv', slBlock slv' = slBlock slv ∧ Upd (fun z => z = p ∨ slBlock slv = some z) H H' ∧ TabR H' 55 p slv' (dropF l id).l next most := by
  refine Cl.enter Try.func11 rfl rfl Try.ntmps11 (by simp) ?_
  refine walk none0 ?_
  refine (at_ok h g id).mono fun w H1 _ ⟨e1, hk⟩ => ?_
  subst e1
  have h1 := h.kept hk
  have ht := h1.t
  have hf := g.fit
  obtain ⟨a, cap, ex, rfl, hc, hex⟩ := h.own.form
  cases hp : placeF l id with
  | none =>
    rw [dropF_none hp]
    refine walk none0 ?_
    exact ⟨rfl, _, rfl, Upd.of hk, h1⟩
  | some i =>
    obtain ⟨x, hx, hid⟩ := place_at hp
    have hi := lt_of_get? hx
    have hrf := g.ref x (List.mem_of_getElem? hx)
    obtain ⟨b, o, c, rfl, hb1, hb2, hb3, hb4, r0, r3, r4, r5⟩ := h1.file hx
    refine walk (both ht (both hb2 r5)) ?_
    obtain ⟨q1, q2⟩ := h1.put (k := 5) (v := .int .i64 (x.refs - 1)) (y := { x with refs := x.refs - 1 }) hb2 hx (by decide) rfl
    generalize hH2 : H1.set b (.cells (c.set (o + i * 6 + 5) (.int .i64 (x.refs - 1))) 39 true false) = H2 at *
    have hx2 : (l.set i { x with refs := x.refs - 1 })[i]? = some { x with refs := x.refs - 1 } := by rw [List.getElem?_set_self hi]
    have q1t := q1.t
    obtain ⟨b', o', c', e', hb1', hb2', hb3', hb4', r0', r3', r4', r5'⟩ := q1.file hx2
    simp only [Option.some.injEq, Prod.mk.injEq] at e'
    obtain ⟨rfl, rfl⟩ := e'
    rw [List.length_set] at q1 q1t
    by_cases h1r : 1 < x.refs
    · rw [dropF_more hp hx h1r]
      refine walk (both q1t (both hb2' (both r5' h1r))) ?_
      exact ⟨rfl, _, rfl, (Upd.of hk).trans q2 fun z _ h => .inr h, q1⟩
    · rw [dropF_last hp hx h1r]
      refine walk (both q1t (both hb2' (both r5' h1r))) ?_
      have hdel := deleteF_ok (i := i) (l := l.set i { x with refs := x.refs - 1 }) (by simpa using q1.own) hb2' hb1' (by simpa using hi) (by simp; omega)
      rw [List.length_set, erase_set] at hdel
      refine hdel.mono fun w H3 _ ⟨e1, u3, o3⟩ => ?_
      subst e1
      have hpb : p ≠ b := fun e => h.apart (by rw [e]; rfl)
      have q3t := (u3.keep p q1.plt fun e => hpb (by injection e with e; exact e.symm)).trans q1t
      have hp3 := u3.next
      have hp2 := q1.plt
      refine walk q3t ?_
      have u4 : Upd (fun z => z = p ∨ slBlock (.slice (some (b, o)) l.length cap ex) = some z) H H3 := ((Upd.of hk).trans q2 fun z _ h => .inr h).trans u3 fun z _ h => .inr h
      refine ⟨rfl, .slice (some (b, o)) (l.eraseIdx i).length cap ex, rfl, u4.set _ (by omega) fun _ => .inl rfl, ⟨Heap.get_set_same _ _ _, o3.keep (Nat.le_refl _) fun z hz _ => ?_, h.apart, fun z hz => ?_, by simp; omega⟩⟩
      · rw [Heap.get_set, if_neg (fun e => ?_)]
        simp [slBlock] at hz; exact hpb (by rw [hz, e])
      · have := h1.lt z hz
        have := hk.next
        simp [slBlock] at hz
        simp; omega
end Go.Abs
