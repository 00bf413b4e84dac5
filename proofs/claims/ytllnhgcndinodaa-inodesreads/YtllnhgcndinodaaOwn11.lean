/- Texts on this program, joined. -/
import Derived.Test.YtllnhgcndinodaaOwn10
import Derived.Test.YtllnhgcndinodaaKit04
import Derived.Test.YtllnhgcndinodaaOwn09
import Derived.Test.YtllnhgcndinodaaRows
import Derived.WalkKit
import Derived.ProofKit
import Derived.OpenShut
import Derived.ShutString
import Derived.ChangeOld
import Derived.Below

/- Chapter 06: what comes in; both stores as they begin. -/
namespace Go.Abs
open Go.Proofs
set_option maxRecDepth 100000
set_option linter.unusedVariables false
set_option linter.unusedSimpArgs false

structure GoodS (a : ActS) : Prop where
  k : i64 a.k
  ino : i64 a.ino
  pos : i64 a.pos
  t : a.t.length ≤ maxLen
theorem act_pic {H : Heap} {n : Nat} {cs : List AV} (h : Pic Try.prog H (n + 2) 37 cs) : ∃ x : ActS, cs = encS x ∧ GoodS x := by
  unfold Pic at h
  simp only [Try.underlying37] at h
  obtain ⟨hl, hf⟩ := h
  have c3 : Try.prog.cellsOf 3 = 1 := by kernel_rfl
  have c9 : Try.prog.cellsOf 9 = 1 := by kernel_rfl
  have c37 : Try.prog.cellsOf 37 = 4 := by kernel_rfl
  rw [c37] at hl
  match cs, hl with
  | [a, b, c, d], _ =>
    simp [c3, c9] at hf
    obtain ⟨h0, h1, h2, h3⟩ := hf
    obtain ⟨k, e0, w0⟩ := pic_int (k := .i64) Try.underlying3 h0
    obtain ⟨n, e1, w1⟩ := pic_int (k := .i64) Try.underlying3 h1
    obtain ⟨m, e2, w2⟩ := pic_int (k := .i64) Try.underlying3 h2
    obtain ⟨s, e3, hs⟩ := pic_str Try.underlying9 h3
    simp at e0 e1 e2 e3
    subst e0; subst e1; subst e2; subst e3
    exact ⟨⟨k, n, m, s⟩, rfl, i64_wf w0, i64_wf w1, i64_wf w2, hs⟩
theorem act_of {H : Heap} {n : Nat} {a : AV} (h : PicV Try.prog H (n + 2) 37 a) : ∃ x : ActS, a = .agg (encS x) ∧ GoodS x := by
  unfold PicV at h
  simp only [Try.underlying37] at h
  obtain ⟨cs, rfl, h⟩ := h
  obtain ⟨x, rfl, hs⟩ := act_pic h
  exact ⟨x, rfl, hs⟩
def ActsS (H : Heap) (v : AV) (l : List ActS) : Prop := ∃ c, Sl H 4 v l.length c ∧ (∀ z, slBlock v = some z → z < H.next) ∧ l.length ≤ maxLen ∧ ∀ i x, l[i]? = some x → (c.drop (i * 4)).take 4 = encS x ∧ GoodS x
theorem ActsS.upd {H H' : Heap} {v : AV} {l : List ActS} {fp : Nat → Prop} (h : ActsS H v l) (u : Upd fp H H') (hd : ∀ z, z < H.next → ¬ fp z) : ActsS H' v l := by
  obtain ⟨c, h1, h2, h3⟩ := h
  exact ⟨c, h1.upd u fun z hz _ => hd z (h2 z hz), fun z hz => by have := h2 z hz; have := u.next; omega, h3⟩
theorem ActsS.form {H : Heap} {v : AV} {l : List ActS} (h : ActsS H v l) : ∃ a cap ex, v = .slice a l.length cap ex ∧ l.length ≤ maxLen := by
  obtain ⟨c, h1, h2, h3, h4⟩ := h
  obtain ⟨a, cap, ex, rfl, _⟩ := h1.form
  exact ⟨a, cap, ex, rfl, h3⟩
theorem ActsS.at {H : Heap} {a : Option (Nat × Nat)} {cap : Nat} {ex : Option Nat} {l : List ActS} {i : Nat} {x : ActS} (h : ActsS H (.slice a l.length cap ex) l) (hx : l[i]? = some x) :
    ∃ b o c t w m, a = some (b, o) ∧ b < H.next ∧ H.get b = some (.cells c t w m) ∧ o + i * 4 + 4 ≤ c.length ∧ (c.drop (o + i * 4)).take 4 = encS x ∧ GoodS x := by
  obtain ⟨c, h1, h2, h3, h4⟩ := h
  have hi := (List.getElem?_eq_some_iff.1 hx).1
  obtain ⟨b, o, c', t, w, m, rfl, g1, g2, g3, g4⟩ := h1.at (by omega)
  obtain ⟨e, q⟩ := h4 i x hx
  refine ⟨b, o, c', t, w, m, rfl, g1, g2, by omega, ?_, q⟩
  rw [sub_take g4 (by omega)]
  exact e
theorem acts_of {H : Heap} {v : AV} (h : Pic Try.prog H 3 23 [v]) : ∃ l, ActsS H v l := by
  obtain ⟨len, c, h1, h2, h3, h4⟩ := pic_slice (s := 4) Try.underlying23 (by kernel_rfl) h
  obtain ⟨l, hl, hp⟩ := list_of (p := fun i (x : ActS) => (c.drop (i * 4)).take 4 = encS x ∧ GoodS x) (n := len) fun i hi => act_pic (n := 0) (h4 i hi)
  exact ⟨l, c, by rw [hl]; exact h1, h3, by omega, hp⟩
theorem two_u8 {H : Heap} {n : Nat} {a : AV} (h : PicV Try.prog H (n + 2) 22 a) : ∃ x y : Int, a = .agg [.int .u8 x, .int .u8 y] ∧ (0 ≤ x ∧ x ≤ 255) ∧ 0 ≤ y ∧ y ≤ 255 := by
  unfold PicV at h
  simp only [Try.underlying22] at h
  obtain ⟨cs, rfl, h⟩ := h
  unfold Pic at h
  simp only [Try.underlying22] at h
  obtain ⟨hl, hf⟩ := h
  have c5 : Try.prog.cellsOf 5 = 1 := by kernel_rfl
  have c22 : Try.prog.cellsOf 22 = 2 := by kernel_rfl
  rw [c22] at hl
  match cs, hl with
  | [a, b], _ =>
    have h0 := hf 0 (by decide)
    have h1 := hf 1 (by decide)
    simp [c5] at h0 h1
    obtain ⟨x, e0, w0⟩ := pic_int (k := .u8) Try.underlying5 h0
    obtain ⟨y, e1, w1⟩ := pic_int (k := .u8) Try.underlying5 h1
    simp at e0 e1
    subst e0; subst e1
    exact ⟨x, y, rfl, u8_wf w0, u8_wf w1⟩
theorem three_i64 {H : Heap} {n : Nat} {a : AV} (h : PicV Try.prog H (n + 2) 48 a) : ∃ x y z : Int, a = .agg [.int .i64 x, .int .i64 y, .int .i64 z] ∧ i64 x ∧ i64 y ∧ i64 z := by
  unfold PicV at h
  simp only [Try.underlying48] at h
  obtain ⟨cs, rfl, h⟩ := h
  unfold Pic at h
  simp only [Try.underlying48] at h
  obtain ⟨hl, hf⟩ := h
  have c3 : Try.prog.cellsOf 3 = 1 := by kernel_rfl
  have c48 : Try.prog.cellsOf 48 = 3 := by kernel_rfl
  rw [c48] at hl
  match cs, hl with
  | [a, b, c], _ =>
    have h0 := hf 0 (by decide)
    have h1 := hf 1 (by decide)
    have h2 := hf 2 (by decide)
    simp [c3] at h0 h1 h2
    obtain ⟨x, e0, w0⟩ := pic_int (k := .i64) Try.underlying3 h0
    obtain ⟨y, e1, w1⟩ := pic_int (k := .i64) Try.underlying3 h1
    obtain ⟨z, e2, w2⟩ := pic_int (k := .i64) Try.underlying3 h2
    simp at e0 e1 e2
    subst e0; subst e1; subst e2
    exact ⟨x, y, z, rfl, i64_wf w0, i64_wf w1, i64_wf w2⟩
/-! ## how both begin -/
theorem Fine.nil (n b : Int) (hn : 1 ≤ n ∧ n ≤ 256) (hb : 0 ≤ b ∧ b ≤ 4096) : Fine [] 1 n b 0 :=
  ⟨fun j k a b _ h => by simp at h, by simp, by omega, by simp, by simp, by simp, by simp, by simp, by simp; omega, hn, hb, by simp [usedN]; omega, by omega, by simp⟩
theorem refNew_ok (n b : Int) (hn : -9223372036854775808 ≤ n ∧ n ≤ 9223372036854775807) (hb : -9223372036854775808 ≤ b ∧ b ≤ 9223372036854775807) (H : Heap) : Cl Try.prog pr06 9 [.int .i64 n, .int .i64 b] H fun v H' => v = .tuple [.agg [.slice none 0 0 none, .int .i64 1, .int .i64 n, .int .i64 b], .bool (decide (1 ≤ n ∧ n ≤ 256 ∧ 0 ≤ b ∧ b ≤ 4096))] ∧ Keep H H' := by
  refine Cl.enter Try.func9 rfl rfl Try.ntmps9 (by simp) ?_
  by_cases h1 : 1 ≤ n
  · by_cases h2 : n ≤ 256
    · by_cases h3 : 0 ≤ b
      · by_cases h4 : b ≤ 4096
        · refine walk (both h1 (both h2 (both h3 h4))) ?_
          refine ⟨?_, ?_⟩
          · simp [h1, h2, h3, h4]
          · repeat (first | exact Upd.rfl | refine Upd.push ?_ _ | refine Upd.set ?_ _ (by first | (simp; done) | (simp; omega)) (by omega))
        · refine walk (both h1 (both h2 (both h3 h4))) ?_
          refine ⟨?_, ?_⟩
          · simp [h1, h2, h3, h4]
          · repeat (first | exact Upd.rfl | refine Upd.push ?_ _ | refine Upd.set ?_ _ (by first | (simp; done) | (simp; omega)) (by omega))
      · refine walk (both h1 (both h2 h3)) ?_
        refine ⟨?_, ?_⟩
        · simp [h1, h2, h3]
        · repeat (first | exact Upd.rfl | refine Upd.push ?_ _ | refine Upd.set ?_ _ (by first | (simp; done) | (simp; omega)) (by omega))
    · refine walk (both h1 h2) ?_
      refine ⟨?_, ?_⟩
      · simp [h1, h2]
      · repeat (first | exact Upd.rfl | refine Upd.push ?_ _ | refine Upd.set ?_ _ (by first | (simp; done) | (simp; omega)) (by omega))
  · refine walk h1 ?_
    refine ⟨?_, ?_⟩
    · simp [h1]
    · repeat (first | exact Upd.rfl | refine Upd.push ?_ _ | refine Upd.set ?_ _ (by first | (simp; done) | (simp; omega)) (by omega))
theorem refS_new {H : Heap} (n b : Int) : RefS (H.push (.cells [.slice none 0 0 none, .int .i64 1, .int .i64 n, .int .i64 b] 32 true false)) H.next (.slice none 0 0 none) [] 1 n b :=
  ⟨⟨by simp, OwnG.nil, by simp [slBlock], by simp [slBlock], by simp⟩, by simp, by simp⟩
end Go.Abs

/- Chapter 06: InodesActs. -/
namespace Go.Abs
open Go.Proofs
set_option maxRecDepth 100000
set_option linter.unusedVariables false
set_option linter.unusedSimpArgs false

/-- Both stores, one and the same, made since H0. -/
structure BothI (H0 H : Heap) (s r0 m : Nat) (slv : AV) (Q : List (Nd × Ph)) (W : List NW) (next many blocks : Int) (c : Nat) : Prop where
  st : StoR H s r0 Q next many blocks (usedN (nds Q))
  rs : RefS H m slv W next many blocks
  fn : Fine (nds Q) next many blocks c
  eq : nds Q = ndw W
  ap : ∀ z, footS s r0 Q z → ¬ footR m slv W z
  k : Keep H0 H
  lo : ∀ z, footS s r0 Q z → H0.next ≤ z
  lr : ∀ z, footR m slv W z → H0.next ≤ z
theorem BothI.kept {H0 H H' : Heap} {s r0 m : Nat} {slv : AV} {Q : List (Nd × Ph)} {W : List NW} {next many blocks : Int} {c : Nat} (h : BothI H0 H s r0 m slv Q W next many blocks c) (hw : Wf H) (k : Keep H H') : BothI H0 H' s r0 m slv Q W next many blocks c :=
  ⟨h.st.kept hw k, h.rs.kept k, h.fn, h.eq, h.ap, h.k.then k, h.lo, h.lr⟩
theorem BothI.does {H0 H H' : Heap} {s r0 m : Nat} {slv v : AV} {Q : List (Nd × Ph)} {W : List NW} {next many blocks : Int} {c : Nat} (h : BothI H0 H s r0 m slv Q W next many blocks c) (d : DoesP H H' s r0 m slv Q W many blocks many blocks next next c v) : v = .bool true ∧ ∃ Q' slv' W' next', BothI H0 H' s r0 m slv' Q' W' next' many blocks (c + 1) := by
  obtain ⟨Q', slv', W', next', nx', g1, g2, g3, g4, g5, g6, g7, b, rfl, hb⟩ := d
  obtain ⟨rfl, e1, rfl⟩ := hb h.eq rfl rfl rfl
  have hk := h.k.next
  refine ⟨rfl, Q', slv', W', next', g1, g3, g2, e1, g6, h.k.trans g7 fun z hz hc => ?_, fun z hz => ?_, fun z hz => ?_⟩
  · rcases hc with hc | hc
    · have := h.lo z hc; omega
    · have := h.lr z (hc.elim .inl fun e => .inr (.inl e)); omega
  · rcases g4 z hz with q | q
    · exact h.lo z q
    · omega
  · rcases g5 z hz with q | q
    · exact h.lr z q
    · omega
theorem begins7_ok (x y : Int) (hx : 0 ≤ x ∧ x ≤ 255) (hy : 0 ≤ y ∧ y ≤ 255) (H : Heap) : Cl Try.prog pr06 7 [.agg [.int .u8 x, .int .u8 y]] H fun v H' => ∃ s r0 m, v = .tuple [.ptr (some (s, 0)), .ptr (some (m, 0))] ∧ BothI H H' s r0 m (.slice none 0 0 none) [] [] 1 (1 + x % 8) (y % 20) 0 := by
  refine Cl.wf fun hw => ?_
  have hn : 1 ≤ 1 + x % 8 ∧ 1 + x % 8 ≤ 256 := by omega
  have hb : 0 ≤ y % 20 ∧ y % 20 ≤ 4096 := by omega
  refine Cl.enter Try.func7 rfl rfl Try.ntmps7 (by simp) ?_
  refine walk none0 ?_
  refine Wq.regionD [0, 1, 2, 3, 4, 5, 6, 7, 8, 9, 10] (by kernel_rfl) ?_
  refine walk (both hx hy) ?_
  generalize 1 + x % 8 = n at *
  generalize y % 20 = b at *
  refine (refNew_ok n b (by omega) (by omega) _).mono fun v H2 _ ⟨ea, k2⟩ => ?_
  rw [decide_eq_true (show 1 ≤ n ∧ n ≤ 256 ∧ 0 ≤ b ∧ b ≤ 4096 by omega)] at ea
  subst ea
  refine walk none0 ?_
  have k3 : Keep H2 ((H2.push (.cells [.slice none 0 0 none, .int .i64 0, .int .i64 0, .int .i64 0] 32 true false)).set H2.next (.cells [.slice none 0 0 none, .int .i64 1, .int .i64 n, .int .i64 b] 32 true false)) := (Upd.rfl.push _).set _ (by simp) (by omega)
  have g3 : ((H2.push (.cells [.slice none 0 0 none, .int .i64 0, .int .i64 0, .int .i64 0] 32 true false)).set H2.next (.cells [.slice none 0 0 none, .int .i64 1, .int .i64 n, .int .i64 b] 32 true false)).get H2.next = some (.cells [.slice none 0 0 none, .int .i64 1, .int .i64 n, .int .i64 b] 32 true false) := Heap.get_set_same _ _ _
  have n3 : H2.next < ((H2.push (.cells [.slice none 0 0 none, .int .i64 0, .int .i64 0, .int .i64 0] 32 true false)).set H2.next (.cells [.slice none 0 0 none, .int .i64 1, .int .i64 n, .int .i64 b] 32 true false)).next := by simp
  generalize ((H2.push (.cells [.slice none 0 0 none, .int .i64 0, .int .i64 0, .int .i64 0] 32 true false)).set H2.next (.cells [.slice none 0 0 none, .int .i64 1, .int .i64 n, .int .i64 b] 32 true false)) = H3 at *
  refine (New19_ok n b hn hb H3).mono fun v H4 _ ⟨k4, s, r0, ea, hS, hs1, hr1⟩ => ?_
  subst ea
  have K2 : Keep H H2 := (Upd.rfl.push _).then k2
  have K4 := (K2.then k3).then k4
  have hK2 := K2.next
  have hR : RefS H4 H2.next (.slice none 0 0 none) [] 1 n b := ⟨⟨(k4.get n3).trans g3, OwnG.nil, by simp [slBlock], by simp [slBlock], by have := k4.next; omega⟩, by simp, by simp⟩
  refine walk none0 ?_
  refine ⟨s, r0, H2.next, rfl, hS, hR, Fine.nil n b hn hb, rfl, ?_, K4, ?_, ?_⟩
  · rintro z (rfl | rfl | ⟨j, q, hj, _⟩)
    · rintro (e | e | ⟨j, w, hj, _⟩)
      · omega
      · simp [slBlock] at e
      · simp at hj
    · rintro (e | e | ⟨j, w, hj, _⟩)
      · omega
      · simp [slBlock] at e
      · simp at hj
    · simp at hj
  · rintro z (rfl | rfl | ⟨j, q, hj, _⟩)
    · omega
    · omega
    · simp at hj
  · rintro z (rfl | e | ⟨j, w, hj, _⟩)
    · omega
    · simp [slBlock] at e
    · simp at hj
set_option maxHeartbeats 2000000 in
theorem inodesActs_main (x y : Int) (hx : 0 ≤ x ∧ x ≤ 255) (hy : 0 ≤ y ∧ y ≤ 255) (va : AV) (l0 : List ActS) (H : Heap) (hl : ActsS H va l0) : Cl Try.prog pr06 4 [.agg [.int .u8 x, .int .u8 y], va] H fun v _ => v = .bool true := by
  obtain ⟨a, cap, ex, rfl, hlen⟩ := hl.form
  unfold maxLen at hlen
  have kB : Keep H (H.push (.cells [.int .u8 x, .int .u8 y] 22 true false)) := Upd.rfl.push _
  refine Cl.wf fun hw0 => ?_
  refine Cl.enter Try.func4 rfl rfl Try.ntmps4 (by simp) ?_
  refine walk none0 ?_
  refine (begins7_ok x y hx hy _).mono fun v H1 _ ⟨s, r0, m, ea, hB⟩ => ?_
  subst ea
  have hl1 := hl.upd (kB.then hB.k) (fun _ _ h => h)
  refine walk none0 ?_
  refine Wq.loop (fun k e H' => ∃ (i : Nat) (Q : List (Nd × Ph)) (slv : AV) (W : List NW) (next : Int), i ≤ 60 ∧ k = 60 - i ∧ e 1 = .slice a l0.length cap ex ∧ e 5 = .ptr (some (s, 0)) ∧ e 6 = .ptr (some (m, 0)) ∧ e 7 = .int .i64 i ∧ BothI (H.push (.cells [.int .u8 x, .int .u8 y] 22 true false)) H' s r0 m slv Q W next (1 + x % 8) (y % 20) i) 60 ?_ ?_
  · exact ⟨0, _, _, _, _, by omega, by omega, by simp, by simp, by simp, by simp, hB⟩
  · rintro k e H' ⟨i, Q, slv, W, next, hi, rfl, q1, q5, q6, q7, hI⟩
    have hlk := hl1.upd (fp := nobody) (show Keep _ _ from Upd.rfl) fun _ _ h => h
    by_cases hlt : i < l0.length
    · have hltI : (i : Int) < l0.length := by omega
      by_cases h60 : i < 60
      · have h60I : (i : Int) < 60 := by omega
        obtain ⟨w, hw⟩ : ∃ w, l0[i]? = some w := ⟨l0[i], by simp [hlt]⟩
        have hlI := (hl.upd kB (fun _ _ h => h)).upd hI.k (fun _ _ h => h)
        obtain ⟨b', o, c, t, ow, mk, rfl, hb1, hb2, hb3, hb4, hb5⟩ := hlI.at hw
        refine walk (both q1 (both q5 (both q6 (both q7 (both hltI (both hlt (both h60I (both h60 (both hb2 (both hb3 hb4)))))))))) ?_
        refine (does10_ok hI.st hI.fn (by omega) hI.rs (hI.eq ▸ hI.fn) hI.ap w hb5.k hb5.ino hb5.pos hb5.t).mono fun v H3 hw3 hD => ?_
        obtain ⟨ea, Q', slv', W', next', hI3⟩ := hI.does hD
        subst ea
        refine walk (both q1 (both q5 (both q6 q7))) ?_
        refine (alike14_ok hI3.st hI3.fn hI3.rs hI3.eq).mono fun v H4 hw4 ⟨ea, k4⟩ => ?_
        subst ea
        refine walk (both q1 (both q5 (both q6 q7))) ?_
        exact Roundq.normal (60 - (i + 1)) (by omega) ⟨i + 1, Q', slv', W', next', by omega, rfl, by simp [q1], by simp [q5], by simp [q6], by simp, hI3.kept (hI3.k.wf (kB.wf hw0)) k4⟩
      · have h60I : ¬ (i : Int) < 60 := by omega
        refine walk (both q1 (both q5 (both q6 (both q7 (both hltI (both hlt (both h60I h60))))))) ?_
        refine (lives_ok _).mono fun r H8 _ ⟨ea, eb⟩ => ?_
        subst ea; subst eb
        refine walk none0 ?_
        rfl
    · have hltI : ¬ (i : Int) < l0.length := by omega
      refine walk (both q1 (both q5 (both q6 (both q7 (both hltI hlt))))) ?_
      refine (lives_ok _).mono fun r H8 _ ⟨ea, eb⟩ => ?_
      subst ea; subst eb
      refine walk none0 ?_
      rfl
end Go.Abs

/- Chapter 06: InodesReads. -/
namespace Go.Abs
open Go.Proofs
set_option maxRecDepth 100000
set_option linter.unusedVariables false
set_option linter.unusedSimpArgs false

theorem conv_nil49 (H : Heap) : convR Try.prog 49 9 (some (.slice none 0 0 none)) H = some (.str [], H) := conv_sl (bs := []) (by simp) (by simp) Sl.nil (fun b o n c x e => by cases e)
set_option maxHeartbeats 4000000 in
theorem inodesReads_main (x y : Int) (hx : 0 ≤ x ∧ x ≤ 255) (hy : 0 ≤ y ∧ y ≤ 255) (va : AV) (l0 : List ActS) (x0 x1 x2 : Int) (h0 : i64 x0) (h1 : i64 x1) (h2 : i64 x2) (H : Heap) (hl : ActsS H va l0) :
    Cl Try.prog pr06 5 [.agg [.int .u8 x, .int .u8 y], va, .agg [.int .i64 x0, .int .i64 x1, .int .i64 x2]] H fun v _ => v = .bool true := by
  obtain ⟨a, cap, ex, rfl, hlen⟩ := hl.form
  unfold maxLen at hlen
  have kB : Keep H ((H.push (.cells [.int .u8 x, .int .u8 y] 22 true false)).push (.cells [.int .i64 x0, .int .i64 x1, .int .i64 x2] 48 true false)) := (Upd.rfl.push _).push _
  have gB : ((H.push (.cells [.int .u8 x, .int .u8 y] 22 true false)).push (.cells [.int .i64 x0, .int .i64 x1, .int .i64 x2] 48 true false)).get (H.next + 1) = some (.cells [.int .i64 x0, .int .i64 x1, .int .i64 x2] 48 true false) := by rw [Heap.get_push, if_pos (by simp)]
  have nB : H.next + 1 < ((H.push (.cells [.int .u8 x, .int .u8 y] 22 true false)).push (.cells [.int .i64 x0, .int .i64 x1, .int .i64 x2] 48 true false)).next := by simp
  refine Cl.wf fun hw0 => ?_
  refine Cl.enter Try.func5 rfl rfl Try.ntmps5 (by simp) ?_
  refine walk none0 ?_
  generalize ((H.push (.cells [.int .u8 x, .int .u8 y] 22 true false)).push (.cells [.int .i64 x0, .int .i64 x1, .int .i64 x2] 48 true false)) = HB at *
  refine (begins7_ok x y hx hy _).mono fun v H1 _ ⟨s, r0, m, ea, hB⟩ => ?_
  subst ea
  refine walk none0 ?_
  refine Wq.loop (fun k e H' => ∃ (i : Nat) (Q : List (Nd × Ph)) (slv : AV) (W : List NW) (next : Int), i ≤ 60 ∧ k = 60 - i ∧ e 1 = .slice a l0.length cap ex ∧ e 5 = .ptr (some (H.next + 1, 0)) ∧ e 7 = .ptr (some (s, 0)) ∧ e 8 = .ptr (some (m, 0)) ∧ e 9 = .int .i64 i ∧ BothI HB H' s r0 m slv Q W next (1 + x % 8) (y % 20) i) 60 ?_ ?_
  · exact ⟨0, _, _, _, _, by omega, by omega, by simp, by simp, by simp, by simp, by simp, hB⟩
  · rintro k e H' ⟨i, Q, slv, W, next, hi, rfl, q1, q5, q7, q8, q9, hI⟩
    have gA := (hI.k.get nB).trans gB
    have hw' := hI.k.wf (kB.wf hw0)
    by_cases hlt : i < l0.length
    · have hltI : (i : Int) < l0.length := by omega
      by_cases h60 : i < 60
      · have h60I : (i : Int) < 60 := by omega
        obtain ⟨w, hw⟩ : ∃ w, l0[i]? = some w := ⟨l0[i], by simp [hlt]⟩
        have hlI := (hl.upd kB (fun _ _ h => h)).upd hI.k (fun _ _ h => h)
        obtain ⟨b', o, c, t, ow, mk, rfl, hb1, hb2, hb3, hb4, hb5⟩ := hlI.at hw
        refine walk (both q1 (both q5 (both q7 (both q8 (both q9 (both hltI (both hlt (both h60I (both h60 (both hb2 (both hb3 hb4))))))))))) ?_
        refine (does10_ok hI.st hI.fn (by omega) hI.rs (hI.eq ▸ hI.fn) hI.ap w hb5.k hb5.ino hb5.pos hb5.t).mono fun v H3 hw3 hD => ?_
        obtain ⟨ea, Q', slv', W', next', hI3⟩ := hI.does hD
        subst ea
        refine walk (both q1 (both q5 (both q7 (both q8 q9)))) ?_
        exact Roundq.normal (60 - (i + 1)) (by omega) ⟨i + 1, Q', slv', W', next', by omega, rfl, by simp [q1], by simp [q5], by simp [q7], by simp [q8], by simp, hI3⟩
      · have h60I : ¬ (i : Int) < 60 := by omega
        refine walk (both q1 (both q5 (both q7 (both q8 (both q9 (both hltI (both hlt (both h60I (both h60 gA))))))))) ?_
        have nA := (show H.next + 1 < H'.next by have := hI.k.next; omega)
        cases hf : fnd (nds Q) x0 with
        | none =>
          have hn := fnd_none hf
          have hn' : ∀ x ∈ ndw W, x.ino ≠ x0 := hI.eq ▸ hn
          refine (Read15_no hI.st x1 x2 hn).mono fun v H2 _ ⟨ea, eb⟩ => ?_
          subst ea; subst eb
          refine walk (both q5 (both q7 (both q8 gA))) ?_
          refine (Read16_no hI.rs.tab (Fine.lenW (hI.eq ▸ hI.fn)) x1 x2 hn').mono fun v H3 _ ⟨u, ea, k3, hS, hL⟩ => ?_
          subst ea
          have hI3 := hI.kept hw' k3
          have gA3 := (k3.get nA).trans gA
          refine walk (both q5 (both q7 (both q8 gA3))) ?_
          refine (Stat12_no hI3.st (k3.wf hw') hn).mono fun v H4 _ ⟨ea, k4⟩ => ?_
          simp only [stat0] at ea
          subst ea
          refine walk (both q5 (both q7 q8)) ?_
          have k5 : Keep H4 ((H4.push (.cells [.int .i64 0, .int .i64 0, .int .i64 0, .int .i64 0, .int .i64 0] 41 true false)).set H4.next (.cells [.int .i64 0, .int .i64 0, .int .i64 0, .int .i64 0, .int .i64 0] 41 true false)) := (Upd.rfl.push _).set _ (by simp) (by omega)
          generalize ((H4.push (.cells [.int .i64 0, .int .i64 0, .int .i64 0, .int .i64 0, .int .i64 0] 41 true false)).set H4.next (.cells [.int .i64 0, .int .i64 0, .int .i64 0, .int .i64 0, .int .i64 0] 41 true false)) = H5 at *
          have k35 := k4.then k5
          have K5 := k3.then k35
          have hI5 := hI.kept hw' K5
          have gA5 := (K5.get nA).trans gA
          refine Wq.regionM [(0, 0), (1, 0), (2, 0), (3, 0), (4, 0), (5, 0), (6, 0), (7, 0), (8, 2), (9, 0), (10, 0), (11, 0)] (by kernel_rfl) ?_
          refine mwalk (both q5 (both q7 (both q8 gA5))) ?_
          refine (Has17_no hI5.st hn).mono fun v H6 _ ⟨ea, eb⟩ => ?_
          subst ea; subst eb
          refine mwalk (both q5 (both q7 (both q8 gA5))) ?_
          refine (At18_ok hI5.rs.tab (Fine.lenW (hI.eq ▸ hI.fn)) x0).mono fun v H7 _ ⟨ea, eb⟩ => ?_
          rw [show atI (ndw W) x0 = -1 by simp [atI, fnd_all hn']] at ea
          subst ea; subst eb
          refine mwalk (both q5 (both q7 (both q8 gA5))) ?_
          have hcv := conv_nil49 H7
          have hcv2 := conv_sl (P := Try.prog) (s := 49) (t := 9) (bs := []) (by simp) (by simp) (hS.kept k35) (hL.kept k35)
          refine walk (both q5 (both q7 (both q8 (both gA5 (both hcv hcv2))))) ?_
          refine (lives_ok _).mono fun r H8 _ ⟨ea, eb⟩ => ?_
          subst ea; subst eb
          refine walk none0 ?_
          simp
        | some j =>
          obtain ⟨z, hz, hzi, _⟩ := fnd_some hf
          subst hzi
          obtain ⟨p, hq⟩ := nds_inv hz
          have hz' : (ndw W)[j]? = some z := hI.eq ▸ hz
          obtain ⟨s1, s2, hq'⟩ := ndw_inv hz'
          have f' : Fine (ndw W) next (1 + x % 8) (y % 20) i := hI.eq ▸ hI.fn
          refine (Read15_yes hI.st hI.fn hq x1 x2).mono fun v H2 _ ⟨w, ea, k2, hS1, hL1⟩ => ?_
          subst ea
          have hI2 := hI.kept hw' k2
          have gA2 := (k2.get nA).trans gA
          refine walk (both q5 (both q7 (both q8 gA2))) ?_
          refine (Read16_yes hI2.rs f' hq' x1 x2 h1 h2).mono fun v H3 _ ⟨u, ea, k3, hS, hL⟩ => ?_
          subst ea
          have K3 := k2.then k3
          have hI3 := hI.kept hw' K3
          have gA3 := (K3.get nA).trans gA
          refine walk (both q5 (both q7 (both q8 gA3))) ?_
          refine (Stat12_yes hI3.st (K3.wf hw') hI.fn hq).mono fun v H4 _ ⟨ea, k4⟩ => ?_
          simp only [statT] at ea
          subst ea
          refine walk (both q5 (both q7 q8)) ?_
          have k5 : Keep H4 ((H4.push (.cells [.int .i64 0, .int .i64 0, .int .i64 0, .int .i64 0, .int .i64 0] 41 true false)).set H4.next (.cells [.int .i64 z.kind, .int .i64 (z.B.length + z.tgt.length), .int .i64 z.links, .int .i64 z.holds, .int .i64 (z.Has.count true)] 41 true false)) := (Upd.rfl.push _).set _ (by simp) (by omega)
          generalize ((H4.push (.cells [.int .i64 0, .int .i64 0, .int .i64 0, .int .i64 0, .int .i64 0] 41 true false)).set H4.next (.cells [.int .i64 z.kind, .int .i64 (z.B.length + z.tgt.length), .int .i64 z.links, .int .i64 z.holds, .int .i64 (z.Has.count true)] 41 true false)) = H5 at *
          have k35 := k4.then k5
          have K5 := K3.then k35
          have hI5 := hI.kept hw' K5
          have gA5 := (K5.get nA).trans gA
          refine Wq.regionM [(0, 0), (1, 0), (2, 0), (3, 0), (4, 0), (5, 0), (6, 0), (7, 0), (8, 2), (9, 0), (10, 0), (11, 0)] (by kernel_rfl) ?_
          refine mwalk (both q5 (both q7 (both q8 gA5))) ?_
          refine (Has17_yes hI5.st hI.fn hq x1).mono fun v H6 _ ⟨ea, eb⟩ => ?_
          subst ea; subst eb
          refine mwalk (both q5 (both q7 (both q8 gA5))) ?_
          refine (At18_ok hI5.rs.tab f'.lenW z.ino).mono fun v H7 _ ⟨ea, eb⟩ => ?_
          rw [atI_yes f' hz'] at ea
          subst ea; subst eb
          refine mwalk (both q5 (both q7 (both q8 gA5))) ?_
          have hcv := conv_sl (P := Try.prog) (s := 49) (t := 9) (by simp) (by simp) (hS1.kept (k3.then k35)) (hL1.kept (k3.then k35))
          have hcv2 := conv_sl (P := Try.prog) (s := 49) (t := 9) (by simp) (by simp) (hS.kept k35) (hL.kept k35)
          generalize (if z.kind = 1 then rdB z.B x1 x2 else []) = bs at *
          generalize (if z.kind = 1 then (0 : Int) else 22) = er at *
          have gm := hI5.rs.tab.g
          have hrf := hI5.rs.rf j _ hq'
          obtain ⟨bb, o, cap2, ex2, cc, esl, _, _, _, p2, _, p4, _, p6⟩ := hI5.rs.tab.node hq'
          rw [esl] at gm
          obtain ⟨ra, rc, rx, ra', rc', rx', ee, r1, r2, r3⟩ := hrf
          simp only [AV.agg.injEq, List.cons.injEq, and_true] at ee
          obtain ⟨rfl, rfl⟩ := ee
          have r2' : Sl H7 1 (.slice ra' z.Has.length rc' rx') z.Has.length (z.Has.map AV.bool) := r2
          have p7 : cc[o + j * 9 + 5 + 1]? = some (.slice ra' z.Has.length rc' rx') := p6 6 (by decide)
          clear r1 r2 r3
          have p9 : o + j * 9 + 5 + 1 < cc.length := by omega
          have hjW := lt_of_getW hq'
          have hjI : (j : Int) < W.length := by omega
          by_cases k0 : 0 ≤ x1
          · by_cases k1 : x1 < z.Has.length
            · obtain ⟨K, rfl⟩ := Int.eq_ofNat_of_zero_le k0
              have hK : K < z.Has.length := by omega
              obtain ⟨bv, hbv⟩ : ∃ bv, z.Has[K]? = some bv := ⟨z.Has[K], by simp [hK]⟩
              have e0 : hasF z.Has (K : Int) = bv := by
                unfold hasF
                simp only [Int.toNat_natCast, List.getD, hbv]
                simp
              obtain ⟨bh, oh, ch, th, wh, mh, rfl, _, t2, t3, t4⟩ := r2'.at (by omega)
              have t5 : ch[oh + K]? = some (.bool bv) := by
                rw [sub_get t4 (by omega)]
                simp [hbv]
              have t6 : oh + K < ch.length := by omega
              refine walk (both q5 (both q7 (both q8 (both gA5 (both hcv (both hcv2 (both k0 (both k1 (both hK (both gm (both p2 (both p7 (both p9 (both hjW (both hjI (both e0 (both t2 (both t5 t6)))))))))))))))))) ?_
              refine (lives_ok _).mono fun r H8 _ ⟨ea, eb⟩ => ?_
              subst ea; subst eb
              refine walk none0 ?_
              simp
            · have e0 : hasF z.Has x1 = false := by
                cases hh : hasF z.Has x1 with
                | false => rfl
                | true => have := hasF_lt hh; omega
              refine walk (both q5 (both q7 (both q8 (both gA5 (both hcv (both hcv2 (both k0 (both k1 (both gm (both p2 (both p7 (both p9 (both hjW (both hjI e0)))))))))))))) ?_
              refine (lives_ok _).mono fun r H8 _ ⟨ea, eb⟩ => ?_
              subst ea; subst eb
              refine walk none0 ?_
              simp
          · have e0 : hasF z.Has x1 = false := by
              cases hh : hasF z.Has x1 with
              | false => rfl
              | true => have := hasF_lt hh; omega
            refine walk (both q5 (both q7 (both q8 (both gA5 (both hcv (both hcv2 (both k0 e0))))))) ?_
            refine (lives_ok _).mono fun r H8 _ ⟨ea, eb⟩ => ?_
            subst ea; subst eb
            refine walk none0 ?_
            simp
    · have hltI : ¬ (i : Int) < l0.length := by omega
      refine walk (both q1 (both q5 (both q7 (both q8 (both q9 (both hltI (both hlt gA))))))) ?_
      have nA := (show H.next + 1 < H'.next by have := hI.k.next; omega)
      cases hf : fnd (nds Q) x0 with
      | none =>
        have hn := fnd_none hf
        have hn' : ∀ x ∈ ndw W, x.ino ≠ x0 := hI.eq ▸ hn
        refine (Read15_no hI.st x1 x2 hn).mono fun v H2 _ ⟨ea, eb⟩ => ?_
        subst ea; subst eb
        refine walk (both q5 (both q7 (both q8 gA))) ?_
        refine (Read16_no hI.rs.tab (Fine.lenW (hI.eq ▸ hI.fn)) x1 x2 hn').mono fun v H3 _ ⟨u, ea, k3, hS, hL⟩ => ?_
        subst ea
        have hI3 := hI.kept hw' k3
        have gA3 := (k3.get nA).trans gA
        refine walk (both q5 (both q7 (both q8 gA3))) ?_
        refine (Stat12_no hI3.st (k3.wf hw') hn).mono fun v H4 _ ⟨ea, k4⟩ => ?_
        simp only [stat0] at ea
        subst ea
        refine walk (both q5 (both q7 q8)) ?_
        have k5 : Keep H4 ((H4.push (.cells [.int .i64 0, .int .i64 0, .int .i64 0, .int .i64 0, .int .i64 0] 41 true false)).set H4.next (.cells [.int .i64 0, .int .i64 0, .int .i64 0, .int .i64 0, .int .i64 0] 41 true false)) := (Upd.rfl.push _).set _ (by simp) (by omega)
        generalize ((H4.push (.cells [.int .i64 0, .int .i64 0, .int .i64 0, .int .i64 0, .int .i64 0] 41 true false)).set H4.next (.cells [.int .i64 0, .int .i64 0, .int .i64 0, .int .i64 0, .int .i64 0] 41 true false)) = H5 at *
        have k35 := k4.then k5
        have K5 := k3.then k35
        have hI5 := hI.kept hw' K5
        have gA5 := (K5.get nA).trans gA
        refine Wq.regionM [(0, 0), (1, 0), (2, 0), (3, 0), (4, 0), (5, 0), (6, 0), (7, 0), (8, 2), (9, 0), (10, 0), (11, 0)] (by kernel_rfl) ?_
        refine mwalk (both q5 (both q7 (both q8 gA5))) ?_
        refine (Has17_no hI5.st hn).mono fun v H6 _ ⟨ea, eb⟩ => ?_
        subst ea; subst eb
        refine mwalk (both q5 (both q7 (both q8 gA5))) ?_
        refine (At18_ok hI5.rs.tab (Fine.lenW (hI.eq ▸ hI.fn)) x0).mono fun v H7 _ ⟨ea, eb⟩ => ?_
        rw [show atI (ndw W) x0 = -1 by simp [atI, fnd_all hn']] at ea
        subst ea; subst eb
        refine mwalk (both q5 (both q7 (both q8 gA5))) ?_
        have hcv := conv_nil49 H7
        have hcv2 := conv_sl (P := Try.prog) (s := 49) (t := 9) (bs := []) (by simp) (by simp) (hS.kept k35) (hL.kept k35)
        refine walk (both q5 (both q7 (both q8 (both gA5 (both hcv hcv2))))) ?_
        refine (lives_ok _).mono fun r H8 _ ⟨ea, eb⟩ => ?_
        subst ea; subst eb
        refine walk none0 ?_
        simp
      | some j =>
        obtain ⟨z, hz, hzi, _⟩ := fnd_some hf
        subst hzi
        obtain ⟨p, hq⟩ := nds_inv hz
        have hz' : (ndw W)[j]? = some z := hI.eq ▸ hz
        obtain ⟨s1, s2, hq'⟩ := ndw_inv hz'
        have f' : Fine (ndw W) next (1 + x % 8) (y % 20) i := hI.eq ▸ hI.fn
        refine (Read15_yes hI.st hI.fn hq x1 x2).mono fun v H2 _ ⟨w, ea, k2, hS1, hL1⟩ => ?_
        subst ea
        have hI2 := hI.kept hw' k2
        have gA2 := (k2.get nA).trans gA
        refine walk (both q5 (both q7 (both q8 gA2))) ?_
        refine (Read16_yes hI2.rs f' hq' x1 x2 h1 h2).mono fun v H3 _ ⟨u, ea, k3, hS, hL⟩ => ?_
        subst ea
        have K3 := k2.then k3
        have hI3 := hI.kept hw' K3
        have gA3 := (K3.get nA).trans gA
        refine walk (both q5 (both q7 (both q8 gA3))) ?_
        refine (Stat12_yes hI3.st (K3.wf hw') hI.fn hq).mono fun v H4 _ ⟨ea, k4⟩ => ?_
        simp only [statT] at ea
        subst ea
        refine walk (both q5 (both q7 q8)) ?_
        have k5 : Keep H4 ((H4.push (.cells [.int .i64 0, .int .i64 0, .int .i64 0, .int .i64 0, .int .i64 0] 41 true false)).set H4.next (.cells [.int .i64 z.kind, .int .i64 (z.B.length + z.tgt.length), .int .i64 z.links, .int .i64 z.holds, .int .i64 (z.Has.count true)] 41 true false)) := (Upd.rfl.push _).set _ (by simp) (by omega)
        generalize ((H4.push (.cells [.int .i64 0, .int .i64 0, .int .i64 0, .int .i64 0, .int .i64 0] 41 true false)).set H4.next (.cells [.int .i64 z.kind, .int .i64 (z.B.length + z.tgt.length), .int .i64 z.links, .int .i64 z.holds, .int .i64 (z.Has.count true)] 41 true false)) = H5 at *
        have k35 := k4.then k5
        have K5 := K3.then k35
        have hI5 := hI.kept hw' K5
        have gA5 := (K5.get nA).trans gA
        refine Wq.regionM [(0, 0), (1, 0), (2, 0), (3, 0), (4, 0), (5, 0), (6, 0), (7, 0), (8, 2), (9, 0), (10, 0), (11, 0)] (by kernel_rfl) ?_
        refine mwalk (both q5 (both q7 (both q8 gA5))) ?_
        refine (Has17_yes hI5.st hI.fn hq x1).mono fun v H6 _ ⟨ea, eb⟩ => ?_
        subst ea; subst eb
        refine mwalk (both q5 (both q7 (both q8 gA5))) ?_
        refine (At18_ok hI5.rs.tab f'.lenW z.ino).mono fun v H7 _ ⟨ea, eb⟩ => ?_
        rw [atI_yes f' hz'] at ea
        subst ea; subst eb
        refine mwalk (both q5 (both q7 (both q8 gA5))) ?_
        have hcv := conv_sl (P := Try.prog) (s := 49) (t := 9) (by simp) (by simp) (hS1.kept (k3.then k35)) (hL1.kept (k3.then k35))
        have hcv2 := conv_sl (P := Try.prog) (s := 49) (t := 9) (by simp) (by simp) (hS.kept k35) (hL.kept k35)
        generalize (if z.kind = 1 then rdB z.B x1 x2 else []) = bs at *
        generalize (if z.kind = 1 then (0 : Int) else 22) = er at *
        have gm := hI5.rs.tab.g
        have hrf := hI5.rs.rf j _ hq'
        obtain ⟨bb, o, cap2, ex2, cc, esl, _, _, _, p2, _, p4, _, p6⟩ := hI5.rs.tab.node hq'
        rw [esl] at gm
        obtain ⟨ra, rc, rx, ra', rc', rx', ee, r1, r2, r3⟩ := hrf
        simp only [AV.agg.injEq, List.cons.injEq, and_true] at ee
        obtain ⟨rfl, rfl⟩ := ee
        have r2' : Sl H7 1 (.slice ra' z.Has.length rc' rx') z.Has.length (z.Has.map AV.bool) := r2
        have p7 : cc[o + j * 9 + 5 + 1]? = some (.slice ra' z.Has.length rc' rx') := p6 6 (by decide)
        clear r1 r2 r3
        have p9 : o + j * 9 + 5 + 1 < cc.length := by omega
        have hjW := lt_of_getW hq'
        have hjI : (j : Int) < W.length := by omega
        by_cases k0 : 0 ≤ x1
        · by_cases k1 : x1 < z.Has.length
          · obtain ⟨K, rfl⟩ := Int.eq_ofNat_of_zero_le k0
            have hK : K < z.Has.length := by omega
            obtain ⟨bv, hbv⟩ : ∃ bv, z.Has[K]? = some bv := ⟨z.Has[K], by simp [hK]⟩
            have e0 : hasF z.Has (K : Int) = bv := by
              unfold hasF
              simp only [Int.toNat_natCast, List.getD, hbv]
              simp
            obtain ⟨bh, oh, ch, th, wh, mh, rfl, _, t2, t3, t4⟩ := r2'.at (by omega)
            have t5 : ch[oh + K]? = some (.bool bv) := by
              rw [sub_get t4 (by omega)]
              simp [hbv]
            have t6 : oh + K < ch.length := by omega
            refine walk (both q5 (both q7 (both q8 (both gA5 (both hcv (both hcv2 (both k0 (both k1 (both hK (both gm (both p2 (both p7 (both p9 (both hjW (both hjI (both e0 (both t2 (both t5 t6)))))))))))))))))) ?_
            refine (lives_ok _).mono fun r H8 _ ⟨ea, eb⟩ => ?_
            subst ea; subst eb
            refine walk none0 ?_
            simp
          · have e0 : hasF z.Has x1 = false := by
              cases hh : hasF z.Has x1 with
              | false => rfl
              | true => have := hasF_lt hh; omega
            refine walk (both q5 (both q7 (both q8 (both gA5 (both hcv (both hcv2 (both k0 (both k1 (both gm (both p2 (both p7 (both p9 (both hjW (both hjI e0)))))))))))))) ?_
            refine (lives_ok _).mono fun r H8 _ ⟨ea, eb⟩ => ?_
            subst ea; subst eb
            refine walk none0 ?_
            simp
        · have e0 : hasF z.Has x1 = false := by
            cases hh : hasF z.Has x1 with
            | false => rfl
            | true => have := hasF_lt hh; omega
          refine walk (both q5 (both q7 (both q8 (both gA5 (both hcv (both hcv2 (both k0 e0))))))) ?_
          refine (lives_ok _).mono fun r H8 _ ⟨ea, eb⟩ => ?_
          subst ea; subst eb
          refine walk none0 ?_
          simp
end Go.Abs

/- Chapter 06: InodesNews. -/
namespace Go.Abs
open Go.Proofs
set_option maxRecDepth 100000
set_option linter.unusedVariables false
set_option linter.unusedSimpArgs false

section
variable (n k : Int) (H : Heap)
theorem file44_nil : Cl Try.prog pr06 44 [.ptr none, .int .i64 n] H fun v H' => v = .tuple [.ptr none, .int .i64 22] ∧ H' = H := by
  refine Cl.enter Try.func44 rfl rfl Try.ntmps44 (by simp) ?_
  refine walk none0 ?_
  refine (get36_nil n H).mono fun v H1 _ ⟨ea, eb⟩ => ?_
  subst ea; subst eb
  refine walk none0 ?_
  exact ⟨rfl, rfl⟩
theorem Make22_nil (t : List UInt8) : Cl Try.prog pr06 22 [.ptr none, .int .i64 k, .str t] H fun v H' => v = .tuple [.int .i64 0, .int .i64 22] ∧ H' = H := by
  refine Cl.enter Try.func22 rfl rfl Try.ntmps22 (by simp) ?_
  refine walk none0 ?_
  exact ⟨rfl, rfl⟩
theorem Stat12_nil : Cl Try.prog pr06 12 [.ptr none, .int .i64 n] H fun v H' => v = .tuple [stat0, .int .i64 22] ∧ Keep H H' := by
  have gT : (H.push (.cells [.int .i64 0, .int .i64 0, .int .i64 0, .int .i64 0, .int .i64 0] 41 true false)).get H.next = some (.cells [.int .i64 0, .int .i64 0, .int .i64 0, .int .i64 0, .int .i64 0] 41 true false) := by simp
  have nT : H.next < (H.push (.cells [.int .i64 0, .int .i64 0, .int .i64 0, .int .i64 0, .int .i64 0] 41 true false)).next := by simp
  have kT : Keep H (H.push (.cells [.int .i64 0, .int .i64 0, .int .i64 0, .int .i64 0, .int .i64 0] 41 true false)) := Upd.rfl.push _
  refine Cl.enter Try.func12 rfl rfl Try.ntmps12 (by simp) ?_
  refine walk none0 ?_
  generalize H.push (.cells [.int .i64 0, .int .i64 0, .int .i64 0, .int .i64 0, .int .i64 0] 41 true false) = H1 at *
  refine (get36_nil n H1).mono fun v H2 _ ⟨ea, eb⟩ => ?_
  subst ea; subst eb
  refine walk gT ?_
  exact ⟨rfl, kT.set _ nT (by omega)⟩
theorem Read15_nil (off : Int) : Cl Try.prog pr06 15 [.ptr none, .int .i64 n, .int .i64 off, .int .i64 k] H fun v H' => v = .tuple [.slice none 0 0 none, .int .i64 22] ∧ H' = H := by
  refine Cl.enter Try.func15 rfl rfl Try.ntmps15 (by simp) ?_
  refine walk none0 ?_
  refine (file44_nil n H).mono fun v H1 _ ⟨ea, eb⟩ => ?_
  subst ea; subst eb
  refine walk none0 ?_
  exact ⟨rfl, rfl⟩
theorem Link23_nil : Cl Try.prog pr06 23 [.ptr none, .int .i64 n] H fun v H' => v = .int .i64 22 ∧ H' = H := by
  refine Cl.enter Try.func23 rfl rfl Try.ntmps23 (by simp) ?_
  refine walk none0 ?_
  refine (get36_nil n H).mono fun v H1 _ ⟨ea, eb⟩ => ?_
  subst ea; subst eb
  refine walk none0 ?_
  exact ⟨rfl, rfl⟩
theorem Hold25_nil : Cl Try.prog pr06 25 [.ptr none, .int .i64 n] H fun v H' => v = .int .i64 22 ∧ H' = H := by
  refine Cl.enter Try.func25 rfl rfl Try.ntmps25 (by simp) ?_
  refine walk none0 ?_
  refine (get36_nil n H).mono fun v H1 _ ⟨ea, eb⟩ => ?_
  subst ea; subst eb
  refine walk none0 ?_
  exact ⟨rfl, rfl⟩
theorem less52_nil (g : AV) : Cl Try.prog pr06 52 [.ptr none, .int .i64 n, g] H fun v H' => v = .int .i64 22 ∧ H' = H := by
  refine Cl.enter Try.func52 rfl rfl Try.ntmps52 (by simp) ?_
  refine walk none0 ?_
  refine (get36_nil n H).mono fun v H1 _ ⟨ea, eb⟩ => ?_
  subst ea; subst eb
  refine walk none0 ?_
  exact ⟨rfl, rfl⟩
theorem Unlink24_nil : Cl Try.prog pr06 24 [.ptr none, .int .i64 n] H fun v H' => v = .int .i64 22 ∧ H' = H := by
  refine Cl.enter Try.func24 rfl rfl Try.ntmps24 (by simp) ?_
  refine walk none0 ?_
  refine (less52_nil n H _).mono fun v H1 _ ⟨ea, eb⟩ => ?_
  subst ea; subst eb
  refine walk none0 ?_
  exact ⟨rfl, rfl⟩
theorem Release26_nil : Cl Try.prog pr06 26 [.ptr none, .int .i64 n] H fun v H' => v = .int .i64 22 ∧ H' = H := by
  refine Cl.enter Try.func26 rfl rfl Try.ntmps26 (by simp) ?_
  refine walk none0 ?_
  refine (less52_nil n H _).mono fun v H1 _ ⟨ea, eb⟩ => ?_
  subst ea; subst eb
  refine walk none0 ?_
  exact ⟨rfl, rfl⟩
theorem Write27_nil (off : Int) (bv : AV) : Cl Try.prog pr06 27 [.ptr none, .int .i64 n, .int .i64 off, bv] H fun v H' => v = .int .i64 22 ∧ H' = H := by
  refine Cl.enter Try.func27 rfl rfl Try.ntmps27 (by simp) ?_
  refine walk none0 ?_
  refine (file44_nil n H).mono fun v H1 _ ⟨ea, eb⟩ => ?_
  subst ea; subst eb
  refine walk none0 ?_
  exact ⟨rfl, rfl⟩
theorem Truncate28_nil : Cl Try.prog pr06 28 [.ptr none, .int .i64 n, .int .i64 k] H fun v H' => v = .int .i64 22 ∧ H' = H := by
  refine Cl.enter Try.func28 rfl rfl Try.ntmps28 (by simp) ?_
  refine walk none0 ?_
  refine (file44_nil n H).mono fun v H1 _ ⟨ea, eb⟩ => ?_
  subst ea; subst eb
  refine walk none0 ?_
  exact ⟨rfl, rfl⟩
theorem Dir29_nil : Cl Try.prog pr06 29 [.ptr none, .int .i64 n] H fun v H' => v = .ptr none ∧ H' = H := by
  refine Cl.enter Try.func29 rfl rfl Try.ntmps29 (by simp) ?_
  refine walk none0 ?_
  refine (get36_nil n H).mono fun v H1 _ ⟨ea, eb⟩ => ?_
  subst ea; subst eb
  refine walk none0 ?_
  exact ⟨rfl, rfl⟩
theorem Has17_nil : Cl Try.prog pr06 17 [.ptr none, .int .i64 n, .int .i64 k] H fun v H' => v = .bool false ∧ H' = H := by
  refine Cl.enter Try.func17 rfl rfl Try.ntmps17 (by simp) ?_
  refine walk none0 ?_
  refine (file44_nil n H).mono fun v H1 _ ⟨ea, eb⟩ => ?_
  subst ea; subst eb
  refine walk none0 ?_
  exact ⟨rfl, rfl⟩
theorem All11_nil : Cl Try.prog pr06 11 [.ptr none] H fun v H' => v = .slice none 0 0 none ∧ H' = H := Cl.prim (v := .slice none 0 0 none) (H' := H) (g := allP 3) rfl rfl ⟨rfl, rfl⟩
theorem Next20_nil : Cl Try.prog pr06 20 [.ptr none] H fun v H' => v = .int .i64 0 ∧ H' = H := by
  refine Cl.enter Try.func20 rfl rfl Try.ntmps20 (by simp) ?_
  refine walk none0 ?_
  exact ⟨rfl, rfl⟩
end
set_option maxHeartbeats 2000000 in
theorem inodesNews_main (n b : Int) (hn : i64 n) (hb : i64 b) (a : ActS) (ha : GoodS a) (H : Heap) : Cl Try.prog pr06 6 [.int .i64 n, .int .i64 b, .agg (encS a)] H fun v _ => v = .bool true := by
  refine Cl.wf fun hw => ?_
  have hsh := fun H => short21_ok a ha.t H
  obtain ⟨k, ino, pos, t⟩ := a
  simp only [encS] at hsh ⊢
  have kA : Keep H (H.push (.cells [.int .i64 k, .int .i64 ino, .int .i64 pos, .str t] 37 true false)) := Upd.rfl.push _
  have gA : (H.push (.cells [.int .i64 k, .int .i64 ino, .int .i64 pos, .str t] 37 true false)).get H.next = some (.cells [.int .i64 k, .int .i64 ino, .int .i64 pos, .str t] 37 true false) := by simp
  have nA : H.next < (H.push (.cells [.int .i64 k, .int .i64 ino, .int .i64 pos, .str t] 37 true false)).next := by simp
  refine Cl.enter Try.func6 rfl rfl Try.ntmps6 (by simp) ?_
  refine walk none0 ?_
  generalize H.push (.cells [.int .i64 k, .int .i64 ino, .int .i64 pos, .str t] 37 true false) = H1 at *
  by_cases hok : 1 ≤ n ∧ n ≤ 256 ∧ 0 ≤ b ∧ b ≤ 4096
  · refine (New19_ok n b ⟨hok.1, hok.2.1⟩ hok.2.2 H1).mono fun v H2 _ ⟨k2, s, r0, ea, hS, _, _⟩ => ?_
    subst ea
    refine walk none0 ?_
    refine (refNew_ok n b hn hb H2).mono fun v H3 _ ⟨ea, k3⟩ => ?_
    rw [decide_eq_true hok] at ea
    subst ea
    refine walk none0 ?_
    have k4 : Keep H3 ((H3.push (.cells [.slice none 0 0 none, .int .i64 0, .int .i64 0, .int .i64 0] 32 true false)).set H3.next (.cells [.slice none 0 0 none, .int .i64 1, .int .i64 n, .int .i64 b] 32 true false)) := (Upd.rfl.push _).set _ (by simp) (by omega)
    generalize ((H3.push (.cells [.slice none 0 0 none, .int .i64 0, .int .i64 0, .int .i64 0] 32 true false)).set H3.next (.cells [.slice none 0 0 none, .int .i64 1, .int .i64 n, .int .i64 b] 32 true false)) = H4 at *
    have hw1 := kA.wf hw
    have hw2 := k2.wf hw1
    have hS4 := hS.kept hw2 (k3.then k4)
    have hF := Fine.nil n b ⟨hok.1, hok.2.1⟩ hok.2.2
    refine (Room8_ok hS4 (by simp; omega) (by omega) (by omega) (by omega)).mono fun v H5 _ ⟨ea, eb⟩ => ?_
    subst ea; subst eb
    refine walk none0 ?_
    refine (Next20_ok hS4).mono fun v H6 _ ⟨ea, eb⟩ => ?_
    subst ea; subst eb
    refine walk none0 ?_
    refine (All11_ok hS4 hF).mono fun v H7 _ ⟨k7, hI⟩ => ?_
    have hI : Is H7 v [] := hI
    obtain ⟨ia, ic, ix, rfl, _⟩ := hI.form
    refine walk none0 ?_
    refine (lives_ok _).mono fun r H8 _ ⟨ea, eb⟩ => ?_
    subst ea; subst eb
    refine walk none0 ?_
    rfl
  · refine (New19_no n b hok H1).mono fun v H2 _ ⟨ea, eb⟩ => ?_
    subst ea; subst eb
    refine walk none0 ?_
    refine (refNew_ok n b hn hb H2).mono fun v H3 _ ⟨ea, k3⟩ => ?_
    rw [decide_eq_false hok] at ea
    subst ea
    refine walk none0 ?_
    have k4 : Keep H3 ((H3.push (.cells [.slice none 0 0 none, .int .i64 0, .int .i64 0, .int .i64 0] 32 true false)).set H3.next (.cells [.slice none 0 0 none, .int .i64 1, .int .i64 n, .int .i64 b] 32 true false)) := (Upd.rfl.push _).set _ (by simp) (by omega)
    generalize ((H3.push (.cells [.slice none 0 0 none, .int .i64 0, .int .i64 0, .int .i64 0] 32 true false)).set H3.next (.cells [.slice none 0 0 none, .int .i64 1, .int .i64 n, .int .i64 b] 32 true false)) = H4 at *
    have k24 := k3.then k4
    have gA4 := (k24.get nA).trans gA
    have nA4 : H.next < H4.next := by have := k24.next; omega
    refine walk gA4 ?_
    refine (hsh _).mono fun v H5 _ ⟨ea, k5⟩ => ?_
    subst ea
    have gA5 := (k5.get nA4).trans gA4
    have nA5 : H.next < H5.next := by have := k5.next; omega
    generalize hsa : shortS ⟨k, ino, pos, t⟩ = a' at *
    obtain ⟨k', i', p', t'⟩ := a'
    refine walk gA5 ?_
    have gA6 : (H5.set H.next (.cells [.int .i64 k', .int .i64 i', .int .i64 p', .str t'] 37 true false)).get H.next = some (.cells [.int .i64 k', .int .i64 i', .int .i64 p', .str t'] 37 true false) := Heap.get_set_same _ _ _
    have nA6 : H.next < (H5.set H.next (.cells [.int .i64 k', .int .i64 i', .int .i64 p', .str t'] 37 true false)).next := by simpa using nA5
    generalize (H5.set H.next (.cells [.int .i64 k', .int .i64 i', .int .i64 p', .str t'] 37 true false)) = H6 at *
    refine (Make22_nil i' H6 t').mono fun v H7 _ ⟨ea, eb⟩ => ?_
    subst ea; subst eb
    refine walk gA6 ?_
    refine (Stat12_nil i' H7).mono fun v H8 _ ⟨ea, k8⟩ => ?_
    simp only [stat0] at ea
    subst ea
    have gA8 := (k8.get nA6).trans gA6
    refine walk gA8 ?_
    have k9 : Keep H8 ((H8.push (.cells [.int .i64 0, .int .i64 0, .int .i64 0, .int .i64 0, .int .i64 0] 41 true false)).set H8.next (.cells [.int .i64 0, .int .i64 0, .int .i64 0, .int .i64 0, .int .i64 0] 41 true false)) := (Upd.rfl.push _).set _ (by simp) (by omega)
    generalize ((H8.push (.cells [.int .i64 0, .int .i64 0, .int .i64 0, .int .i64 0, .int .i64 0] 41 true false)).set H8.next (.cells [.int .i64 0, .int .i64 0, .int .i64 0, .int .i64 0, .int .i64 0] 41 true false)) = H9 at *
    have gA9 := (k9.get (by have := k8.next; omega)).trans gA8
    refine (Read15_nil i' 5 H9 p').mono fun v HA _ ⟨ea, eb⟩ => ?_
    subst ea; subst eb
    refine walk gA9 ?_
    refine (Room8_nil HA).mono fun v HB _ ⟨ea, eb⟩ => ?_
    subst ea; subst eb
    refine walk gA9 ?_
    refine (Link23_nil i' HB).mono fun v HC _ ⟨ea, eb⟩ => ?_
    subst ea; subst eb
    refine walk gA9 ?_
    refine (Unlink24_nil i' HC).mono fun v HD _ ⟨ea, eb⟩ => ?_
    subst ea; subst eb
    refine walk gA9 ?_
    refine (Hold25_nil i' HD).mono fun v HE _ ⟨ea, eb⟩ => ?_
    subst ea; subst eb
    refine walk gA9 ?_
    refine (Release26_nil i' HE).mono fun v HF _ ⟨ea, eb⟩ => ?_
    subst ea; subst eb
    refine walk gA9 ?_
    refine (Write27_nil i' HF p' _).mono fun v HG _ ⟨ea, eb⟩ => ?_
    subst ea; subst eb
    refine walk gA9 ?_
    refine (Truncate28_nil i' p' HG).mono fun v HH _ ⟨ea, eb⟩ => ?_
    subst ea; subst eb
    refine walk gA9 ?_
    refine (Dir29_nil i' HH).mono fun v HI _ ⟨ea, eb⟩ => ?_
    subst ea; subst eb
    refine walk gA9 ?_
    refine (Has17_nil i' 0 HI).mono fun v HJ _ ⟨ea, eb⟩ => ?_
    subst ea; subst eb
    refine walk gA9 ?_
    refine (All11_nil HJ).mono fun v HK _ ⟨ea, eb⟩ => ?_
    subst ea; subst eb
    refine walk gA9 ?_
    refine (Next20_nil HK).mono fun v HL _ ⟨ea, eb⟩ => ?_
    subst ea; subst eb
    refine walk gA9 ?_
    refine (lives_ok _).mono fun r H8 _ ⟨ea, eb⟩ => ?_
    subst ea; subst eb
    refine walk none0 ?_
    rfl
end Go.Abs

/- Chapter 06: InodesRoom. -/
namespace Go.Abs
open Go.Proofs
set_option maxRecDepth 100000
set_option linter.unusedVariables false
set_option linter.unusedSimpArgs false

/-- A store made since H0. -/
structure OneI (H0 H : Heap) (s r0 : Nat) (Q : List (Nd × Ph)) (next many blocks : Int) (c : Nat) : Prop where
  st : StoR H s r0 Q next many blocks (usedN (nds Q))
  fn : Fine (nds Q) next many blocks c
  k : Keep H0 H
  lo : ∀ z, footS s r0 Q z → H0.next ≤ z
theorem OneI.kept {H0 H H' : Heap} {s r0 : Nat} {Q : List (Nd × Ph)} {next many blocks : Int} {c : Nat} (h : OneI H0 H s r0 Q next many blocks c) (hw : Wf H) (k : Keep H H') : OneI H0 H' s r0 Q next many blocks c := ⟨h.st.kept hw k, h.fn, h.k.then k, h.lo⟩
theorem OneI.does {H0 H Hn H' : Heap} {s r0 m : Nat} {slv v : AV} {Q : List (Nd × Ph)} {W : List NW} {next many blocks mn bk nx : Int} {c : Nat} (h : OneI H0 H s r0 Q next many blocks c) (k : Keep H Hn) (hr : ∀ z, footR m slv W z → H.next ≤ z) (d : DoesP Hn H' s r0 m slv Q W many blocks mn bk next nx c v) : (∃ b : Bool, v = .bool b) ∧ ∃ Q' next', OneI H0 H' s r0 Q' next' many blocks (c + 1) := by
  obtain ⟨Q', slv', W', next', nx', g1, g2, g3, g4, g5, g6, g7, b, rfl, hb⟩ := d
  have hk := h.k.next
  have hk2 := k.next
  refine ⟨⟨b, rfl⟩, Q', next', g1, g2, (h.k.then k).trans g7 fun z hz hc => ?_, fun z hz => ?_⟩
  · rcases hc with hc | hc
    · have := h.lo z hc; omega
    · have := hr z (hc.elim .inl fun e => .inr (.inl e)); omega
  · rcases g4 z hz with q | q
    · exact h.lo z q
    · omega
theorem usedN_all {N : List Nd} {i : Nat} (h : N.length ≤ i) : usedN (N.take i) = usedN N := by rw [List.take_of_length_le h]
set_option maxHeartbeats 4000000 in
theorem inodesRoom_main (x y : Int) (hx : 0 ≤ x ∧ x ≤ 255) (hy : 0 ≤ y ∧ y ≤ 255) (va : AV) (l0 : List ActS) (H : Heap) (hl : ActsS H va l0) : Cl Try.prog pr06 3 [.agg [.int .u8 x, .int .u8 y], va] H fun v _ => v = .bool true := by
  obtain ⟨a, cap, ex, rfl, hlen⟩ := hl.form
  unfold maxLen at hlen
  have kB : Keep H (H.push (.cells [.int .u8 x, .int .u8 y] 22 true false)) := Upd.rfl.push _
  have gB : (H.push (.cells [.int .u8 x, .int .u8 y] 22 true false)).get H.next = some (.cells [.int .u8 x, .int .u8 y] 22 true false) := by simp
  have nB : H.next < (H.push (.cells [.int .u8 x, .int .u8 y] 22 true false)).next := by simp
  refine Cl.wf fun hw0 => ?_
  refine Cl.enter Try.func3 rfl rfl Try.ntmps3 (by simp) ?_
  refine walk none0 ?_
  generalize (H.push (.cells [.int .u8 x, .int .u8 y] 22 true false)) = HB at *
  have hwB := kB.wf hw0
  refine (begins7_ok x y hx hy _).mono fun v H1 _ ⟨s, r0, m, ea, hB⟩ => ?_
  subst ea
  have hw1 := hB.k.wf hwB
  have hus := hB.fn.us
  have hbb := hB.fn.bb
  refine walk none0 ?_
  refine (Room8_ok hB.st (by simp; omega) (by omega) (by omega) (by omega)).mono fun v H2 _ ⟨ea, eb⟩ => ?_
  simp only [List.length_nil, nds, List.map_nil, usedN, List.sum_nil] at ea
  subst ea; subst eb
  have gB2 := (hB.k.get nB).trans gB
  refine walk gB2 ?_
  refine (begins7_ok x y hx hy H2).mono fun v H3 _ ⟨s9, r9, m9, ea, hB9⟩ => ?_
  subst ea
  have hO : OneI HB H3 s r0 [] 1 (1 + x % 8) (y % 20) 0 := ⟨hB.st.kept hw1 hB9.k, hB.fn, hB.k.then hB9.k, hB.lo⟩
  refine walk none0 ?_
  refine Wq.loop (fun k e H' => ∃ (i : Nat) (Q : List (Nd × Ph)) (next : Int), i ≤ 60 ∧ k = 60 - i ∧ e 1 = .slice a l0.length cap ex ∧ e 5 = .ptr (some (s, 0)) ∧ e 7 = .int .i64 (1 + x % 8) ∧ e 8 = .int .i64 (y % 20) ∧ e 9 = .ptr (some (s9, 0)) ∧ e 11 = .int .i64 i ∧ OneI HB H' s r0 Q next (1 + x % 8) (y % 20) i) 60 ?_ ?_
  · exact ⟨0, _, _, by omega, by omega, by simp, by simp, by simp, by simp, by simp, by simp, hO⟩
  · rintro k e H' ⟨i, Q, next, hi, rfl, q1, q5, q7, q8, q9, q11, hI⟩
    have hw' := hI.k.wf hwB
    have hw1 := hwB
    by_cases hlt : i < l0.length
    · have hltI : (i : Int) < l0.length := by omega
      by_cases h60 : i < 60
      · have h60I : (i : Int) < 60 := by omega
        obtain ⟨w, hw⟩ : ∃ w, l0[i]? = some w := ⟨l0[i], by simp [hlt]⟩
        refine walk (both q1 (both q5 (both q7 (both q8 (both q9 (both q11 (both hltI (both hlt (both h60I h60))))))))) ?_
        refine (refNew_ok 1 0 (by omega) (by omega) H').mono fun v H4 _ ⟨ea, k4⟩ => ?_
        rw [decide_eq_true (by omega)] at ea
        subst ea
        refine walk (both q1 (both q5 q11)) ?_
        have k5 : Keep H4 ((H4.push (.cells [.slice none 0 0 none, .int .i64 0, .int .i64 0, .int .i64 0] 32 true false)).set H4.next (.cells [.slice none 0 0 none, .int .i64 1, .int .i64 1, .int .i64 0] 32 true false)) := (Upd.rfl.push _).set _ (by simp) (by omega)
        have g5 : ((H4.push (.cells [.slice none 0 0 none, .int .i64 0, .int .i64 0, .int .i64 0] 32 true false)).set H4.next (.cells [.slice none 0 0 none, .int .i64 1, .int .i64 1, .int .i64 0] 32 true false)).get H4.next = some (.cells [.slice none 0 0 none, .int .i64 1, .int .i64 1, .int .i64 0] 32 true false) := Heap.get_set_same _ _ _
        have n5 : H4.next < ((H4.push (.cells [.slice none 0 0 none, .int .i64 0, .int .i64 0, .int .i64 0] 32 true false)).set H4.next (.cells [.slice none 0 0 none, .int .i64 1, .int .i64 1, .int .i64 0] 32 true false)).next := by simp
        generalize ((H4.push (.cells [.slice none 0 0 none, .int .i64 0, .int .i64 0, .int .i64 0] 32 true false)).set H4.next (.cells [.slice none 0 0 none, .int .i64 1, .int .i64 1, .int .i64 0] 32 true false)) = H5 at *
        have k45 := k4.then k5
        have hI5 := hI.kept hw' k45
        have hR : RefS H5 H4.next (.slice none 0 0 none) [] 1 1 0 := ⟨⟨g5, OwnG.nil, by simp [slBlock], by simp [slBlock], n5⟩, by simp, by simp⟩
        have hF1 : Fine (ndw []) 1 1 0 0 := Fine.nil 1 0 (by omega) (by omega)
        have hfr : ∀ z, footR H4.next (.slice none 0 0 none) [] z → H'.next ≤ z := by
          rintro z (rfl | e | ⟨j, w, hj, _⟩)
          · exact k4.next
          · simp [slBlock] at e
          · simp at hj
        have hlS := hI.st.lt hw'
        have hap : ∀ z, footS s r0 Q z → ¬ footR H4.next (.slice none 0 0 none) [] z := fun z hz hc => by
          have := hlS z hz
          have := hfr z hc
          omega
        have hlI := (hl.upd kB (fun _ _ h => h)).upd hI5.k (fun _ _ h => h)
        obtain ⟨b', o, c, t, ow, mk, rfl, hb1, hb2, hb3, hb4, hb5⟩ := hlI.at hw
        refine walk (both q1 (both q5 (both q11 (both hltI (both hlt (both hb2 (both hb3 hb4))))))) ?_
        refine (does10_ok hI5.st hI5.fn (by omega) hR hF1 hap w hb5.k hb5.ino hb5.pos hb5.t).mono fun v H6 hw6 hD => ?_
        obtain ⟨⟨b, ea⟩, Q', next', hI6⟩ := hI.does k45 hfr hD
        subst ea
        refine walk (both q1 (both q5 (both q7 (both q8 (both q9 q11))))) ?_
        exact Roundq.normal (60 - (i + 1)) (by omega) ⟨i + 1, Q', next', by omega, rfl, by simp [q1], by simp [q5], by simp [q7], by simp [q8], by simp [q9], by simp, hI6⟩
      · have h60I : ¬ (i : Int) < 60 := by omega
        refine walk (both q1 (both q5 (both q7 (both q8 (both q9 (both q11 (both hltI (both hlt (both h60I h60))))))))) ?_
        refine (All11_ok hI.st hI.fn).mono fun v H2 _ ⟨k2, hA⟩ => ?_
        have hI2 := hI.kept hw' k2
        have hw2 := hI2.k.wf hw1
        have hfew := hI.fn.few
        have hmb := hI.fn.mb
        have hbb := hI.fn.bb
        have hus := hI.fn.us
        rw [nds_len] at hfew
        have hAl : ((nds Q).map (·.ino)).length = Q.length := by simp [nds]
        obtain ⟨va2, vc, vx, rfl, hvc, hvx⟩ := hA.form
        obtain ⟨L, hL⟩ : ∃ L, L = ((nds Q).map (·.ino)).length := ⟨_, rfl⟩
        rw [← hL]
        refine walk (both q5 (both q7 (both q8 q9))) ?_
        refine Wq.loop (fun k e H' => ∃ i : Nat, i ≤ L ∧ k = L - i ∧ Keep H2 H' ∧ e 5 = .ptr (some (s, 0)) ∧ e 7 = .int .i64 (1 + x % 8) ∧ e 8 = .int .i64 (y % 20) ∧ e 9 = .ptr (some (s9, 0)) ∧ e 14 = .slice va2 L vc vx ∧ e 15 = .int .i64 (usedN ((nds Q).take i)) ∧ e 16 = .int .i64 i) L ?_ ?_
        · exact ⟨0, by omega, by omega, Upd.rfl, by simp [q5], by simp [q7], by simp [q8], by simp [q9], by simp, by simp [usedN], by simp⟩
        · rintro k e H' ⟨i, hi, rfl, hK, q5, q7, q8, q9, q14, q15, q16⟩
          have hI3 := hI2.kept hw2 hK
          have hw3 := hK.wf hw2
          by_cases hlt : i < L
          · have hltI : (i : Int) < L := by omega
            obtain ⟨z, hz⟩ : ∃ z, (nds Q)[i]? = some z := ⟨(nds Q)[i]'(by rw [nds_len]; omega), by simp⟩
            obtain ⟨p, hq⟩ := nds_inv hz
            have hm := List.mem_of_getElem? hz
            have hln := hI.fn.ln z hm
            have hcc := hI.fn.cc
            have hzi : ((nds Q).map (·.ino))[i]? = some z.ino := by simp [hz]
            obtain ⟨b, o, cc, t, w, mk, eab, _, hb1, hb2, hb3, hb4⟩ := int_at (hA.kept hK) hzi
            have hut := usedN_take hz
            have hle := usedN_le (N := nds Q) (i + 1)
            refine walk (both q5 (both q7 (both q8 (both q9 (both q14 (both q15 (both q16 (both hlt (both hltI (both eab (both hb2 (both hb3 hb4)))))))))))) ?_
            refine (Stat12_yes hI3.st hw3 hI.fn hq).mono fun v H4 _ ⟨ea, k4⟩ => ?_
            simp only [statT] at ea
            subst ea
            refine walk (both q5 (both q7 (both q8 (both q9 (both q14 (both q15 q16)))))) ?_
            have k5 : Keep H4 ((H4.push (.cells [.int .i64 0, .int .i64 0, .int .i64 0, .int .i64 0, .int .i64 0] 41 true false)).set H4.next (.cells [.int .i64 z.kind, .int .i64 (z.B.length + z.tgt.length), .int .i64 z.links, .int .i64 z.holds, .int .i64 (z.Has.count true)] 41 true false)) := (Upd.rfl.push _).set _ (by simp) (by omega)
            have g5 : ((H4.push (.cells [.int .i64 0, .int .i64 0, .int .i64 0, .int .i64 0, .int .i64 0] 41 true false)).set H4.next (.cells [.int .i64 z.kind, .int .i64 (z.B.length + z.tgt.length), .int .i64 z.links, .int .i64 z.holds, .int .i64 (z.Has.count true)] 41 true false)).get H4.next = some (.cells [.int .i64 z.kind, .int .i64 (z.B.length + z.tgt.length), .int .i64 z.links, .int .i64 z.holds, .int .i64 (z.Has.count true)] 41 true false) := Heap.get_set_same _ _ _
            generalize ((H4.push (.cells [.int .i64 0, .int .i64 0, .int .i64 0, .int .i64 0, .int .i64 0] 41 true false)).set H4.next (.cells [.int .i64 z.kind, .int .i64 (z.B.length + z.tgt.length), .int .i64 z.links, .int .i64 z.holds, .int .i64 (z.Has.count true)] 41 true false)) = H5 at *
            have hge : ¬ z.links + z.holds < 1 := by omega
            refine walk (both q5 (both q7 (both q8 (both q9 (both q14 (both q15 (both q16 (both g5 hge)))))))) ?_
            exact Roundq.normal (L - (i + 1)) (by omega) ⟨i + 1, by omega, rfl, (hK.then k4).then k5, by simp [q5], by simp [q7], by simp [q8], by simp [q9], by simp [q14], by simp [hut], by simp [q16]⟩
          · obtain rfl : i = L := by omega
            have hltI : ¬ (i : Int) < i := by omega
            rw [usedN_all (by rw [nds_len]; omega)] at q15
            refine walk (both q5 (both q7 (both q8 (both q9 (both q14 (both q15 q16)))))) ?_
            refine (Room8_ok hI3.st (by omega) (by omega) (by omega) (by omega)).mono fun v H4 _ ⟨ea, eb⟩ => ?_
            subst ea; subst eb
            have hQL : (Q.length : Int) = i := by omega
            have f1 : (0 : Int) ≤ 1 + x % 8 - i := by omega
            have f2 : (0 : Int) ≤ y % 20 - usedN (nds Q) := by omega
            rw [hQL]
            refine walk (both q5 (both q7 (both q8 (both q9 (both q14 (both q15 (both q16 (both f1 f2)))))))) ?_
            refine (lives_ok _).mono fun r H8 _ ⟨ea, eb⟩ => ?_
            subst ea; subst eb
            refine walk none0 ?_
            rfl
    · have hltI : ¬ (i : Int) < l0.length := by omega
      refine walk (both q1 (both q5 (both q7 (both q8 (both q9 (both q11 (both hltI hlt))))))) ?_
      refine (All11_ok hI.st hI.fn).mono fun v H2 _ ⟨k2, hA⟩ => ?_
      have hI2 := hI.kept hw' k2
      have hw2 := hI2.k.wf hw1
      have hfew := hI.fn.few
      have hmb := hI.fn.mb
      have hbb := hI.fn.bb
      have hus := hI.fn.us
      rw [nds_len] at hfew
      have hAl : ((nds Q).map (·.ino)).length = Q.length := by simp [nds]
      obtain ⟨va2, vc, vx, rfl, hvc, hvx⟩ := hA.form
      obtain ⟨L, hL⟩ : ∃ L, L = ((nds Q).map (·.ino)).length := ⟨_, rfl⟩
      rw [← hL]
      refine walk (both q5 (both q7 (both q8 q9))) ?_
      refine Wq.loop (fun k e H' => ∃ i : Nat, i ≤ L ∧ k = L - i ∧ Keep H2 H' ∧ e 5 = .ptr (some (s, 0)) ∧ e 7 = .int .i64 (1 + x % 8) ∧ e 8 = .int .i64 (y % 20) ∧ e 9 = .ptr (some (s9, 0)) ∧ e 14 = .slice va2 L vc vx ∧ e 15 = .int .i64 (usedN ((nds Q).take i)) ∧ e 16 = .int .i64 i) L ?_ ?_
      · exact ⟨0, by omega, by omega, Upd.rfl, by simp [q5], by simp [q7], by simp [q8], by simp [q9], by simp, by simp [usedN], by simp⟩
      · rintro k e H' ⟨i, hi, rfl, hK, q5, q7, q8, q9, q14, q15, q16⟩
        have hI3 := hI2.kept hw2 hK
        have hw3 := hK.wf hw2
        by_cases hlt : i < L
        · have hltI : (i : Int) < L := by omega
          obtain ⟨z, hz⟩ : ∃ z, (nds Q)[i]? = some z := ⟨(nds Q)[i]'(by rw [nds_len]; omega), by simp⟩
          obtain ⟨p, hq⟩ := nds_inv hz
          have hm := List.mem_of_getElem? hz
          have hln := hI.fn.ln z hm
          have hcc := hI.fn.cc
          have hzi : ((nds Q).map (·.ino))[i]? = some z.ino := by simp [hz]
          obtain ⟨b, o, cc, t, w, mk, eab, _, hb1, hb2, hb3, hb4⟩ := int_at (hA.kept hK) hzi
          have hut := usedN_take hz
          have hle := usedN_le (N := nds Q) (i + 1)
          refine walk (both q5 (both q7 (both q8 (both q9 (both q14 (both q15 (both q16 (both hlt (both hltI (both eab (both hb2 (both hb3 hb4)))))))))))) ?_
          refine (Stat12_yes hI3.st hw3 hI.fn hq).mono fun v H4 _ ⟨ea, k4⟩ => ?_
          simp only [statT] at ea
          subst ea
          refine walk (both q5 (both q7 (both q8 (both q9 (both q14 (both q15 q16)))))) ?_
          have k5 : Keep H4 ((H4.push (.cells [.int .i64 0, .int .i64 0, .int .i64 0, .int .i64 0, .int .i64 0] 41 true false)).set H4.next (.cells [.int .i64 z.kind, .int .i64 (z.B.length + z.tgt.length), .int .i64 z.links, .int .i64 z.holds, .int .i64 (z.Has.count true)] 41 true false)) := (Upd.rfl.push _).set _ (by simp) (by omega)
          have g5 : ((H4.push (.cells [.int .i64 0, .int .i64 0, .int .i64 0, .int .i64 0, .int .i64 0] 41 true false)).set H4.next (.cells [.int .i64 z.kind, .int .i64 (z.B.length + z.tgt.length), .int .i64 z.links, .int .i64 z.holds, .int .i64 (z.Has.count true)] 41 true false)).get H4.next = some (.cells [.int .i64 z.kind, .int .i64 (z.B.length + z.tgt.length), .int .i64 z.links, .int .i64 z.holds, .int .i64 (z.Has.count true)] 41 true false) := Heap.get_set_same _ _ _
          generalize ((H4.push (.cells [.int .i64 0, .int .i64 0, .int .i64 0, .int .i64 0, .int .i64 0] 41 true false)).set H4.next (.cells [.int .i64 z.kind, .int .i64 (z.B.length + z.tgt.length), .int .i64 z.links, .int .i64 z.holds, .int .i64 (z.Has.count true)] 41 true false)) = H5 at *
          have hge : ¬ z.links + z.holds < 1 := by omega
          refine walk (both q5 (both q7 (both q8 (both q9 (both q14 (both q15 (both q16 (both g5 hge)))))))) ?_
          exact Roundq.normal (L - (i + 1)) (by omega) ⟨i + 1, by omega, rfl, (hK.then k4).then k5, by simp [q5], by simp [q7], by simp [q8], by simp [q9], by simp [q14], by simp [hut], by simp [q16]⟩
        · obtain rfl : i = L := by omega
          have hltI : ¬ (i : Int) < i := by omega
          rw [usedN_all (by rw [nds_len]; omega)] at q15
          refine walk (both q5 (both q7 (both q8 (both q9 (both q14 (both q15 q16)))))) ?_
          refine (Room8_ok hI3.st (by omega) (by omega) (by omega) (by omega)).mono fun v H4 _ ⟨ea, eb⟩ => ?_
          subst ea; subst eb
          have hQL : (Q.length : Int) = i := by omega
          have f1 : (0 : Int) ≤ 1 + x % 8 - i := by omega
          have f2 : (0 : Int) ≤ y % 20 - usedN (nds Q) := by omega
          rw [hQL]
          refine walk (both q5 (both q7 (both q8 (both q9 (both q14 (both q15 (both q16 (both f1 f2)))))))) ?_
          refine (lives_ok _).mono fun r H8 _ ⟨ea, eb⟩ => ?_
          subst ea; subst eb
          refine walk none0 ?_
          rfl
end Go.Abs

/- Chapter 06: all four laws. -/
namespace Go.Abs
set_option linter.unusedVariables false
end Go.Abs

/- The seat's own facts for its rows. -/
namespace Go.Proofs.Ytllnhgcndinodaa
open Go.ChangeShapes Go.WideShapes Go.ChangeAt Go.RowKit Go.Abs
set_option linter.unusedVariables false
set_option maxRecDepth 100000

theorem own : ownKnob Try.prog.godebug = none := by kernel_rfl
theorem laidOut : laidOutB Try.prog = true := by kernel_rfl
theorem mixed : Try.prog.follows .mixedOrders = true := by kernel_rfl
theorem plainN : plainNames Try.prog = true := by kernel_rfl
theorem baseOk : PrimsOk Try.prog base06 := Try.base06Ok
theorem baseRl : PrimsRl base06 := Try.base06Rl
theorem run13 : ((acall Try.prog base06 40 13 [] (Heap.start Try.prog.globals.size)).map fun r => sameAV r.1 (.bool true)) = some true := by kernel_rfl
theorem runs13 : ∃ n H', acall Try.prog base06 n 13 [] (Heap.start Try.prog.globals.size) = some (.bool true, H') := runs_on run13
theorem primsOk : PrimsOk Try.prog pr06 := by
  refine orPrims_ok (closedPrims_on mixed plainN baseOk fun p hp => ?_) baseOk
  simp at hp
  subst hp
  exact ⟨rfl, runs13⟩
theorem primsRl : PrimsRl pr06 := orPrims_rl (closedPrims_rl _) baseRl
end Go.Proofs.Ytllnhgcndinodaa

/- InodesReads: the row. -/
namespace Go.Proofs.Ytllnhgcndinodaa
open Go.ChangeShapes Go.WideShapes Go.ChangeAt Go.RowKit Go.Abs
set_option linter.unusedVariables false
set_option maxRecDepth 100000

theorem inodesReadsMain (H : Heap) (xs : List AV) (hG : Try.prog.globals.size ≤ H.next) (hw : Wf H) (h : PicAll Try.prog H 3 [22, 23, 48] xs) : CallsA Try.prog pr06 5 xs H fun v _ => v = .bool true := by
  obtain ⟨a0, r0, rfl, h0, a1, r1, rfl, h1, a2, r2, rfl, h2, hend⟩ := h
  obtain rfl : r2 = [] := hend
  refine Cl.callsA primsRl hw ?_
  obtain ⟨x, y, rfl, hx, hy⟩ := two_u8 h0
  obtain ⟨l, hl⟩ := acts_of (picV_slice Try.underlying23 h1)
  obtain ⟨a, b, c, rfl, ha, hb, hc⟩ := three_i64 h2
  exact inodesReads_main x y hx hy _ l a b c ha hb hc H hl

theorem inodesReadsLifted (os : Os) (started : os.Started) (H : Type) (enc : TypeId × Value → H) :
    ReturnsInHanded {} Try.checked os 5 .any (Rows.inodesReadsSpec.pre6 enc Try.prog Try.f5 Rows.inodesReadsRow.domain false) (Rows.inodesReadsSpec.post enc Try.prog Try.f5 false true false false) := by
  refine returnsInHanded_of_change (C := Try.checked) own started (by kernel_rfl) Try.func5
    (ChangeSpec.witness6 (enc := enc) (C := Try.checked) false ⟨#[], #[.agg #[.int .u8 0, .int .u8 0], .slice none 0 0, .agg #[.int .i64 0, .int .i64 0, .int .i64 0]], []⟩ 8 (by kernel_rfl) (by kernel_rfl) (by kernel_rfl) (by kernel_rfl)) ?_
  intro W base args ds gs before hval hW hcnd _
  have ep : Try.f5.params.toList = [22, 23, 48] := by kernel_rfl
  refine law_post laidOut rfl (fun ds h => ?_) (tb := 4) (by kernel_rfl) Try.underlying4 ?_ hW (fun p hA => ?_)
  · rw [ep] at h
    match ds, h with
    | [a0, a1, a2], _ => rfl
  · rw [ep]
    intro t ht
    simp at ht
    rcases ht with rfl | rfl | rfl <;> exact ⟨by kernel_rfl, of_decide_eq_true (by kernel_rfl)⟩
  · refine law_calls primsOk mixed plainN Try.func5 rfl (n := 3) (base := base) (ts := Try.f5.params.toList) ?_ ?_ ?_ hA
    · rw [ep]
      intro t ht
      simp at ht
      rcases ht with rfl | rfl | rfl <;> kernel_rfl
    · rw [ep]
      exact inodesReadsMain
    · intro j t v h1 h2
      exact hval j t v (by simpa using h1) (by simpa using h2)

theorem inodesReads : Rows.InodesReadsSaid :=
  OpenClaim.holds_of_wide 5 Try.f5 rfl rfl rfl rfl rfl rfl rfl ⟨rfl, rfl, rfl, rfl, rfl⟩ rfl rfl rfl rfl rfl (by kernel_rfl) Try.func5 (by kernel_rfl)
    (of_decide_eq_true (by kernel_rfl)) (by unfold Func.isWrapper; first | (rw [if_pos (by decide +kernel)]; kernel_rfl) | (rw [if_neg (by decide +kernel)]; exact ⟨rfl, rfl⟩))
    (fun os started H enc _ => inodesReadsLifted os started H enc)
-- #print axioms inodesReads
end Go.Proofs.Ytllnhgcndinodaa
