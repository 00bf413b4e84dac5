/- Texts on this program, joined. -/
import Derived.Test.YtpcchlcbmhmopaaOwn12
import Derived.Test.YtpcchlcbmhmopaaKit09

/- Chapter 04: the document's answer, walked: a file that is made. -/
namespace Go.Abs
open Go.Proofs
set_option maxRecDepth 100000
set_option linter.unusedVariables false
set_option linter.unusedSimpArgs false

/-- A file of the reference's in the making, in a block of its own. -/
structure G2 (H0 H : Heap) (g : Nat) (v1 v2 : AV) (B : List UInt8) (Has : List Bool) : Prop where
  hg : H.get g = some (.cells [v1, v2] 28 true false)
  o1 : OwnSl H 5 1 v1 B.length (cellsOfBytes B)
  o2 : OwnSl H 4 1 v2 Has.length (Has.map AV.bool)
  keep : Keep H0 H
  gn : H0.next ≤ g
  gl : g < H.next
  n1 : ∀ b, slBlock v1 = some b → H0.next ≤ b
  n2 : ∀ b, slBlock v2 = some b → H0.next ≤ b

theorem own_ne {H : Heap} {u s n : Nat} {v : AV} {cs : List AV} {g t : Nat} {ds : List AV} {w m : Bool} (h : OwnSl H u s v n cs) (hg : H.get g = some (.cells ds t w m)) (hne : u ≠ t) : ∀ b, slBlock v = some b → b ≠ g := by
  rintro b hb rfl
  rcases h with ⟨rfl, _, _⟩ | ⟨b', sl, rfl, _, _, _, h4⟩
  · cases hb
  · simp [slBlock] at hb
    subst hb
    rw [hg] at h4
    simp at h4
    exact hne h4.2.1.symm
theorem own_ne2 {H : Heap} {u s n u' s' n' : Nat} {v v' : AV} {cs cs' : List AV} (h : OwnSl H u s v n cs) (h' : OwnSl H u' s' v' n' cs') (hne : u ≠ u') : ∀ b, slBlock v = some b → slBlock v' ≠ some b := by
  intro b hb e
  rcases h' with ⟨rfl, _, _⟩ | ⟨b', sl, rfl, _, _, _, h4⟩
  · cases e
  · simp [slBlock] at e
    subst e
    exact own_ne h h4 hne _ hb rfl

section
variable {H0 H H1 : Heap} {g : Nat} {v1 v2 w : AV} {B C : List UInt8} {Has : List Bool} {i : Nat}
theorem G2.push (h : G2 H0 H g v1 v2 B Has) (o : AObj) : G2 H0 (H.push o) g v1 v2 B Has :=
  ⟨by rw [Heap.get_push, if_neg (by have := h.gl; omega)]; exact h.hg, h.o1.push o, h.o2.push o, h.keep.push o, h.gn, by have := h.gl; simp; omega, h.n1, h.n2⟩
theorem G2.appB (h : G2 H0 H g v1 v2 B Has) (o : OwnSl H1 5 1 w (B.length + C.length) (cellsOfBytes B ++ cellsOfBytes C)) (b : ButOne (slBlock v1) H H1) (hs : slBlock w = slBlock v1 ∨ slBlock w = some H.next) :
    H1.get g = some (.cells [v1, v2] 28 true false) ∧ G2 H0 (H1.set g (.cells [w, v2] 28 true false)) g w v2 (B ++ C) Has := by
  have hg1 : H1.get g = some (.cells [v1, v2] 28 true false) := (b.2.2 g h.gl (fun e => own_ne h.o1 h.hg (by decide) g e.symm rfl)).trans h.hg
  refine ⟨hg1, by rw [Heap.get_set, if_pos rfl], ?_, ?_, ?_, h.gn, by have := b.1; have := h.gl; simp; omega, ?_, h.n2⟩
  · rw [List.length_append, cellsOfBytes_app]
    exact o.set _ (fun e => own_ne o hg1 (by decide) g e rfl)
  · have o2 := h.o2.butOne b fun b hb e => own_ne2 h.o1 h.o2 (by decide) b e hb
    exact o2.set _ (fun e => own_ne o2 hg1 (by decide) g e rfl)
  · have := h.gn; have := h.gl; have := b.1
    exact (h.keep.butOne b fun x hx hl => by have := h.n1 x hx; omega).set _ (by omega) (by omega)
  · intro x hx
    rcases hs with hs | hs
    · exact h.n1 x (hs ▸ hx)
    · rw [hs] at hx; injection hx with hx; have := h.keep.next; omega
theorem G2.appH {Cs : List Bool} (h : G2 H0 H g v1 v2 B Has) (o : OwnSl H1 4 1 w (Has.length + Cs.length) (Has.map AV.bool ++ Cs.map AV.bool)) (b : ButOne (slBlock v2) H H1) (hs : slBlock w = slBlock v2 ∨ slBlock w = some H.next) :
    H1.get g = some (.cells [v1, v2] 28 true false) ∧ G2 H0 (H1.set g (.cells [v1, w] 28 true false)) g v1 w B (Has ++ Cs) := by
  have hg1 : H1.get g = some (.cells [v1, v2] 28 true false) := (b.2.2 g h.gl (fun e => own_ne h.o2 h.hg (by decide) g e.symm rfl)).trans h.hg
  refine ⟨hg1, by rw [Heap.get_set, if_pos rfl], ?_, ?_, ?_, h.gn, by have := b.1; have := h.gl; simp; omega, h.n1, ?_⟩
  · have o1 := h.o1.butOne b fun b hb e => own_ne2 h.o1 h.o2 (by decide) b hb e
    exact o1.set _ (fun e => own_ne o1 hg1 (by decide) g e rfl)
  · rw [List.length_append, List.map_append]
    exact o.set _ (fun e => own_ne o hg1 (by decide) g e rfl)
  · have := h.gn; have := h.gl; have := b.1
    exact (h.keep.butOne b fun x hx hl => by have := h.n2 x hx; omega).set _ (by omega) (by omega)
  · intro x hx
    rcases hs with hs | hs
    · exact h.n2 x (hs ▸ hx)
    · rw [hs] at hx; injection hx with hx; have := h.keep.next; omega
/-- Its block of bytes. -/
theorem G2.at1 (h : G2 H0 H g v1 v2 B Has) (h0 : 0 < B.length) : ∃ b x, v1 = .slice (some (b, 0)) B.length B.length x ∧ H.get b = some (.cells (cellsOfBytes B) 5 true false) ∧ b < H.next ∧ b ≠ g ∧ H0.next ≤ b := by
  rcases h.o1 with ⟨_, e, _⟩ | ⟨b, sl, e, _, _, h3, h4⟩
  · omega
  · exact ⟨b, sl, e, h4, h3, own_ne h.o1 h.hg (by decide) b (by rw [e]; rfl), h.n1 b (by rw [e]; rfl)⟩
theorem G2.at2 (h : G2 H0 H g v1 v2 B Has) (h0 : 0 < Has.length) : ∃ b x, v2 = .slice (some (b, 0)) Has.length Has.length x ∧ H.get b = some (.cells (Has.map AV.bool) 4 true false) ∧ b < H.next ∧ b ≠ g ∧ H0.next ≤ b := by
  rcases h.o2 with ⟨_, e, _⟩ | ⟨b, sl, e, _, _, h3, h4⟩
  · omega
  · exact ⟨b, sl, e, h4, h3, own_ne h.o2 h.hg (by decide) b (by rw [e]; rfl), h.n2 b (by rw [e]; rfl)⟩
theorem G2.setB {b : Nat} {x : UInt8} (h : G2 H0 H g v1 v2 B Has) (hb : slBlock v1 = some b) : G2 H0 (H.set b (.cells ((cellsOfBytes B).set i (.int .u8 x.toNat)) 5 true false)) g v1 v2 (B.set i x) Has := by
  have hbg := own_ne h.o1 h.hg (by decide) b hb
  have hbn := h.n1 b hb
  have e1 : cellsOfBytes (B.set i x) = (cellsOfBytes B).set i (.int .u8 x.toNat) := by simp [cellsOfBytes, List.map_set]
  refine ⟨by rw [Heap.get_set, if_neg (fun e => hbg e.symm)]; exact h.hg, ?_, h.o2.set _ (own_ne2 h.o1 h.o2 (by decide) b hb), h.keep.set _ (h.o1.lt b hb) (by omega), h.gn, h.gl, h.n1, h.n2⟩
  rw [e1, List.length_set]
  rcases h.o1 with ⟨e, _, _⟩ | ⟨b', sl, e, q1, q2, q3, q4⟩
  · rw [e] at hb; cases hb
  · rw [e] at hb
    simp [slBlock] at hb
    subst hb
    exact .inr ⟨b', sl, e, q1, by simp [q2], q3, by rw [Heap.get_set, if_pos rfl]⟩
theorem G2.setH {b : Nat} {x : Bool} (h : G2 H0 H g v1 v2 B Has) (hb : slBlock v2 = some b) : G2 H0 (H.set b (.cells ((Has.map AV.bool).set i (.bool x)) 4 true false)) g v1 v2 B (Has.set i x) := by
  have hbg := own_ne h.o2 h.hg (by decide) b hb
  have hbn := h.n2 b hb
  have e1 : (Has.set i x).map AV.bool = (Has.map AV.bool).set i (.bool x) := by simp [List.map_set]
  refine ⟨by rw [Heap.get_set, if_neg (fun e => hbg e.symm)]; exact h.hg, h.o1.set _ (own_ne2 h.o2 h.o1 (by decide) b hb), ?_, h.keep.set _ (h.o2.lt b hb) (by omega), h.gn, h.gl, h.n1, h.n2⟩
  rw [e1, List.length_set]
  rcases h.o2 with ⟨e, _, _⟩ | ⟨b', sl, e, q1, q2, q3, q4⟩
  · rw [e] at hb; cases hb
  · rw [e] at hb
    simp [slBlock] at hb
    subst hb
    exact .inr ⟨b', sl, e, q1, by simp [q2], q3, by rw [Heap.get_set, if_pos rfl]⟩
theorem G2.ref (h : G2 H0 H g v1 v2 B Has) : RefR H (.agg [v1, v2]) B Has := by
  obtain ⟨a, x, rfl, _⟩ := h.o1.form
  obtain ⟨a', x', rfl, _⟩ := h.o2.form
  exact ⟨_, _, _, _, _, _, rfl, h.o1.sl, h.o2.sl, h.o1.live⟩
end

/-- The blocks of a value's slices. -/
def blkOf : AV → Nat → Prop
  | .agg l, b => ∃ s ∈ l, slBlock s = some b
  | _, _ => False
theorem G2.blk {H0 H : Heap} {g : Nat} {v1 v2 : AV} {B : List UInt8} {Has : List Bool} (h : G2 H0 H g v1 v2 B Has) : ∀ b, blkOf (.agg [v1, v2]) b → H0.next ≤ b ∧ b < H.next := by
  rintro b ⟨s, hs, hb⟩
  simp at hs
  rcases hs with rfl | rfl
  · exact ⟨h.n1 b hb, h.o1.lt b hb⟩
  · exact ⟨h.n2 b hb, h.o2.lt b hb⟩

/-- What the reference leaves of a file that is cut. -/
def cutB (B : List UInt8) (n : Nat) : List UInt8 := (List.range n).map fun i => B.getD i 0
theorem cutB_len (B : List UInt8) (n : Nat) : (cutB B n).length = n := by simp [cutB]
theorem cutB_succ (B : List UInt8) (n : Nat) : cutB B (n + 1) = cutB B n ++ [B.getD n 0] := by simp [cutB, List.range_succ]
def cutH (Has : List Bool) (n : Nat) : List Bool := Has.take ((n + 63) / 64)

set_option maxHeartbeats 1000000 in
theorem rtrunc_ok (B : List UInt8) (Has : List Bool) (hB : B.length ≤ 65536) (hH : Has.length ≤ 1024) (n : Int) (hn : -9223372036854775808 ≤ n ∧ n ≤ 9223372036854775807) (v : AV) (H : Heap) (h : RefR H v B Has) :
    Cl Try.prog pr04 21 [v, .int .i64 n] H fun w H' => Keep H H' ∧ ∃ u, (∀ b, blkOf u b → blkOf v b ∨ (H.next ≤ b ∧ b < H'.next)) ∧ RefR H' u (if n < 0 ∨ n > 65536 then B else cutB B n.toNat) (if n < 0 ∨ n > 65536 then Has else cutH Has n.toNat) ∧
      w = .tuple [u, .int .i64 (if n < 0 ∨ n > 65536 then 0 else (Has.count true : Int) - (cutH Has n.toNat).count true), .int .i64 (if n < 0 then 22 else if n > 65536 then 27 else 0)] := by
  have hv := h
  obtain ⟨a, c, x, a', c', x', rfl, h1, h2, hLv⟩ := h
  refine Cl.enter Try.func21 rfl rfl Try.ntmps21 (by simp) ?_
  by_cases hc : n < 0 ∨ n > 65536
  · simp only [if_pos hc]
    by_cases c1 : n < 0
    · simp only [if_pos c1]
      refine walk none0 ?_
      have k : ∀ o1 o2 o3, Keep H (((H.push o1).push o2).set (H.next + 1) o3) := fun o1 o2 o3 => ((Upd.rfl.push _).push _).set _ (by simp) (by omega)
      exact ⟨k _ _ _, _, fun b hb => .inl hb, hv.kept (k _ _ _), rfl⟩
    · simp only [if_neg c1, if_pos (show n > 65536 by omega)]
      refine walk none0 ?_
      have k : ∀ o1 o2 o3, Keep H (((H.push o1).push o2).set (H.next + 1) o3) := fun o1 o2 o3 => ((Upd.rfl.push _).push _).set _ (by simp) (by omega)
      exact ⟨k _ _ _, _, fun b hb => .inl hb, hv.kept (k _ _ _), rfl⟩
  · simp only [if_neg hc, if_neg (show ¬ n < 0 by omega), if_neg (show ¬ n > 65536 by omega)]
    refine walk none0 ?_
    generalize hHb : (H.push (AObj.cells [AV.slice a B.length c x, AV.slice a' Has.length c' x'] 28 true false)).push (AObj.cells [AV.slice none 0 0 none, AV.slice none 0 0 none] 28 true false) = Hb
    have kb : Keep H Hb := by subst hHb; exact (Upd.rfl.push _).push _
    have nb : Hb.next = H.next + 2 := by subst hHb; simp
    have gb2 : Hb.get H.next = some (.cells [.slice a B.length c x, .slice a' Has.length c' x'] 28 true false) := by subst hHb; simp
    have gb4 : Hb.get (H.next + 1) = some (.cells [.slice none 0 0 none, .slice none 0 0 none] 28 true false) := by subst hHb; simp
    have h1b := h1.kept kb
    have h2b := h2.kept kb
    have hvb := hv.kept kb
    have hG0 : G2 Hb ((Hb.push (AObj.cells [AV.slice none 0 0 none, AV.slice none 0 0 none] 28 true false)).set (H.next + 1 + 1) (AObj.cells [AV.slice none 0 0 none, AV.slice none 0 0 none] 28 true false)) (H.next + 2) (.slice none 0 0 none) (.slice none 0 0 none) [] [] :=
      ⟨by simp, OwnSl.nil, OwnSl.nil, (Upd.rfl.push _).set _ (by simp; omega) (by omega), by omega, by simp; omega, by simp [slBlock], by simp [slBlock]⟩
    obtain ⟨N, hN⟩ := Int.eq_ofNat_of_zero_le (show 0 ≤ n by omega)
    refine Wq.loop (fun m e H' => ∃ (i : Nat) (v1 : AV), i ≤ N ∧ e 1 = .int .i64 n ∧ e 2 = .ptr (some (H.next, 0)) ∧ e 4 = .ptr (some (H.next + 1, 0)) ∧ e 7 = .ptr (some (H.next + 2, 0)) ∧ e 8 = .int .i64 i ∧ m = N - i ∧ G2 Hb H' (H.next + 2) v1 (.slice none 0 0 none) (cutB B i) []) N ?_ ?_
    · exact ⟨0, .slice none 0 0 none, by omega, by simp, by simp, by simp, by simp, by simp, by omega, hG0⟩
    · rintro m e H' ⟨i, v1, hi, g1, g2, g4, g7, g8, rfl, hG⟩
      have hf2 := (hG.keep.get (show H.next < Hb.next by omega)).trans gb2
      have hgg := hG.hg
      have hgl := hG.gl
      by_cases hlt : i < N
      · have e2 := cutB_succ B i
        have hcl := cutB_len B i
        have hl := hG.o1.len
        obtain ⟨wa, wx, rfl, _⟩ := hG.o1.form
        generalize hy : B.getD i 0 = y at e2
        by_cases hlb : i < B.length
        · have hS := h1b.kept hG.keep
          obtain ⟨b, o, cs, t, w0, mm, rfl, hb1, hb2, hb3, hb4⟩ := hS.at (by omega)
          have hx := sub_get hb4 (i := i) (by omega)
          have hgi : B[i]? = some (B[i]'(by omega)) := List.getElem?_eq_getElem (by omega)
          rw [cellsOfBytes_get, hgi, Option.map_some] at hx
          have hgd : B[i] = y := by rw [← hy]; simp [List.getD, hgi]
          rw [hgd] at hx
          refine walk (both g1 (both g2 (both g4 (both g7 (both g8 (both hf2 (both hgg (both hb2 hx)))))))) ?_
          refine Oq.append (own := (hG.push _).o1) (new := cellsOfBytes [y]) (m := 1) (by simp (disch := omega) [g1, g2, g4, g7, g8, hf2, hgg, cellsOfBytes, cellsOfBytes_nil, -getElem?_pos, wrapI64, tdivN, tmodN, ipos, ineg, dpos, dneg, slc_l, slc_h, slc_lh, slc_hm, slc_lhm, slc_0, slcR_some, slcR_none, cutS_ok, cutA_ok, byteAt_ok]; first | done | (repeat' (first | rfl | apply And.intro))) ⟨_, rfl, by simp; first | done | (repeat' (first | rfl | apply And.intro))⟩ rfl (by kernel_rfl) (by kernel_rfl) (by refine ⟨by simp, ?_⟩; simp (disch := omega) [srcCells, cellsAt, g1, g2, g4, g7, g8, hf2, hgg, cellsOfBytes, cellsOfBytes_nil, -getElem?_pos, wrapI64, tdivN, tmodN, ipos, ineg, dpos, dneg, slc_l, slc_h, slc_lh, slc_hm, slc_lhm, slc_0, slcR_some, slcR_none, cutS_ok, cutA_ok, byteAt_ok]; first | done | rfl) (by simp [cellsOfBytes]) (cellsOfBytes_one _) (by omega) (by omega) fun w1 H3 o1 b1 s1 => ?_
          obtain ⟨wa1, wx1, rfl, _⟩ := o1.form
          obtain ⟨hg3, hG3⟩ := (hG.push _).appB (C := [y]) o1 b1 s1
          refine walk (both g1 (both g2 (both g4 (both g7 (both g8 hg3))))) ?_
          refine Roundq.normal (N - (i + 1)) (by omega) ⟨i + 1, _, by omega, by simp [g1], by simp [g2], by simp [g4], by simp [g7], by simp, rfl, e2 ▸ hG3⟩
        · have hgd : y = 0 := by rw [← hy]; simp [List.getD, List.getElem?_eq_none (by omega : B.length ≤ i)]
          subst hgd
          refine walk (both g1 (both g2 (both g4 (both g7 (both g8 (both hf2 hgg)))))) ?_
          refine Oq.append (own := (hG.push _).o1) (new := cellsOfBytes [(0 : UInt8)]) (m := 1) (by simp (disch := omega) [g1, g2, g4, g7, g8, hf2, hgg, cellsOfBytes, cellsOfBytes_nil, -getElem?_pos, wrapI64, tdivN, tmodN, ipos, ineg, dpos, dneg, slc_l, slc_h, slc_lh, slc_hm, slc_lhm, slc_0, slcR_some, slcR_none, cutS_ok, cutA_ok, byteAt_ok]; first | done | (repeat' (first | rfl | apply And.intro))) ⟨_, rfl, by simp; first | done | (repeat' (first | rfl | apply And.intro))⟩ rfl (by kernel_rfl) (by kernel_rfl) (by refine ⟨by simp, ?_⟩; simp (disch := omega) [srcCells, cellsAt, g1, g2, g4, g7, g8, hf2, hgg, cellsOfBytes, cellsOfBytes_nil, -getElem?_pos, wrapI64, tdivN, tmodN, ipos, ineg, dpos, dneg, slc_l, slc_h, slc_lh, slc_hm, slc_lhm, slc_0, slcR_some, slcR_none, cutS_ok, cutA_ok, byteAt_ok]; first | done | rfl) (by simp [cellsOfBytes]) (cellsOfBytes_one _) (by omega) (by omega) fun w1 H3 o1 b1 s1 => ?_
          obtain ⟨wa1, wx1, rfl, _⟩ := o1.form
          obtain ⟨hg3, hG3⟩ := (hG.push _).appB (C := [(0 : UInt8)]) o1 b1 s1
          refine walk (both g1 (both g2 (both g4 (both g7 (both g8 hg3))))) ?_
          refine Roundq.normal (N - (i + 1)) (by omega) ⟨i + 1, _, by omega, by simp [g1], by simp [g2], by simp [g4], by simp [g7], by simp, rfl, e2 ▸ hG3⟩
      · have : i = N := by omega
        subst this
        refine walk (both g1 (both g2 (both g4 (both g7 g8)))) ?_
        have hcl := cutB_len B i
        generalize hcbe : cutB B i = CB at *
        have hgg0 := hgg
        clear hgg
        refine Wq.loop (fun m e H' => ∃ (k : Nat) (v2 : AV), k ≤ Has.length ∧ (k : Int) * 64 < i + 64 ∧ e 1 = .int .i64 n ∧ e 2 = .ptr (some (H.next, 0)) ∧ e 4 = .ptr (some (H.next + 1, 0)) ∧ e 7 = .ptr (some (H.next + 2, 0)) ∧ e 10 = .int .i64 k ∧ m = Has.length - k ∧ G2 Hb H' (H.next + 2) v1 v2 CB (Has.take k)) Has.length ?_ ?_
        · exact ⟨0, .slice none 0 0 none, by omega, by omega, by simp [g1], by simp [g2], by simp [g4], by simp [g7], by simp, by omega, hG⟩
        · clear g1 g2 g4 g7 g8 hf2 hgg0 hgl hG
          rintro m e H' ⟨k, v2, hk, hk2, g1, g2, g4, g7, g10, rfl, hG⟩
          have hf2 := (hG.keep.get (show H.next < Hb.next by omega)).trans gb2
          have hgg := hG.hg
          have hgl := hG.gl
          have htk : (Has.take k).length = k := by simp; omega
          by_cases hlt : k < Has.length ∧ (k : Int) * 64 < i
          · have hS := h2b.kept hG.keep
            obtain ⟨b, o, cs, t, w0, mm, rfl, hb1, hb2, hb3, hb4⟩ := hS.at (by omega)
            have hx := sub_get hb4 (i := k) (by omega)
            have hgi : Has[k]? = some (Has[k]'(by omega)) := List.getElem?_eq_getElem (by omega)
            rw [List.getElem?_map, hgi, Option.map_some] at hx
            have e2 : Has.take (k + 1) = Has.take k ++ [Has[k]] := by rw [List.take_add_one, hgi]; rfl
            generalize Has[k] = y at *
            obtain ⟨wa, wx, rfl, _⟩ := hG.o2.form
            refine walk (both g1 (both g2 (both g4 (both g7 (both g10 (both hf2 (both hgg (both hb2 hx)))))))) ?_
            refine Wq.regionD [0, 1, 2, 3, 4, 5, 6, 7, 8, 9, 10] (by kernel_rfl) ?_
            refine walk (both g1 (both g2 (both g4 (both g7 (both g10 (both hf2 (both hgg (both hb2 hx)))))))) ?_
            refine Oq.append (own := (hG.push _).o2) (new := [y].map AV.bool) (m := 1) (by simp (disch := omega) [g1, g2, g4, g7, g10, hf2, hgg, -getElem?_pos, wrapI64, tdivN, tmodN, ipos, ineg, dpos, dneg, slc_l, slc_h, slc_lh, slc_hm, slc_lhm, slc_0, slcR_some, slcR_none, cutS_ok, cutA_ok, byteAt_ok]; first | done | (repeat' (first | rfl | apply And.intro))) ⟨_, rfl, by simp; first | done | (repeat' (first | rfl | apply And.intro))⟩ rfl (by kernel_rfl) (by kernel_rfl) (by refine ⟨by simp, ?_⟩; simp (disch := omega) [srcCells, cellsAt, g1, g2, g4, g7, g10, hf2, hgg, -getElem?_pos, wrapI64, tdivN, tmodN, ipos, ineg, dpos, dneg, slc_l, slc_h, slc_lh, slc_hm, slc_lhm, slc_0, slcR_some, slcR_none, cutS_ok, cutA_ok, byteAt_ok]; first | done | rfl) (by simp [g1, g2, g4, g7, g10, hf2, hgg]) (by simp [g1, g2, g4, g7, g10, hf2, hgg]) (by omega) (by omega) fun w1 H3 o1 b1 s1 => ?_
            obtain ⟨wa1, wx1, rfl, _⟩ := o1.form
            obtain ⟨hg3, hG3⟩ := (hG.push _).appH (Cs := [y]) o1 b1 s1
            refine walk (both g1 (both g2 (both g4 (both g7 (both g10 hg3))))) ?_
            rw [← e2] at hG3
            simp only [htk] at hG3
            refine Roundq.normal (Has.length - (k + 1)) (by omega) ⟨k + 1, _, by omega, by omega, by simp [g1], by simp [g2], by simp [g4], by simp [g7], by simp, rfl, hG3⟩
          · have e3 : Has.take k = cutH Has n.toNat := by
              unfold cutH
              by_cases hq : k = Has.length
              · rw [hq, List.take_of_length_le (Nat.le_refl _), List.take_of_length_le (by omega)]
              · congr 1; omega
            rw [e3] at hG
            by_cases hq : (k : Int) * 64 < i
            · refine walk (both g1 (both g2 (both g4 (both g7 (both g10 (both hf2 hgg)))))) ?_
              have hcut : (cutH Has n.toNat).length ≤ 1024 := by unfold cutH; simp; omega
              have hc1 : Has.count true ≤ 1024 := Nat.le_trans List.count_le_length hH
              have hc2 : (cutH Has n.toNat).count true ≤ 1024 := Nat.le_trans List.count_le_length hcut
              generalize cutH Has n.toNat = CH at *
              refine Wq.regionM [(1, 0), (2, 0), (3, 2), (4, 0), (0, 3), (6, 0), (5, 0), (7, 0), (8, 0)] (by kernel_rfl) ?_
              refine mwalk (both g1 (both g2 (both g4 (both g7 (both g10 (both hf2 hgg)))))) ?_
              refine (rblocks_ok B Has (by omega) _ H' (hvb.kept hG.keep)).mono fun w H2 hn2 ⟨e4, hk4⟩ => ?_
              subst e4
              have hgg2 := (hk4.get hgl).trans hgg
              refine mwalk (both g1 (both g2 (both g4 (both g7 (both g10 (both hgg hgg2)))))) ?_
              refine (rblocks_ok CB CH (by omega) _ H2 (hG.ref.kept hk4)).mono fun w H4 hn4 ⟨e5, hk5⟩ => ?_
              subst e5
              have hgg4 := (hk5.get (by omega)).trans hgg2
              have hg4 := ((hk4.then hk5).get (show H.next + 1 < H'.next by have := hG.keep.next; omega)).trans ((hG.keep.get (show H.next + 1 < Hb.next by omega)).trans gb4)
              obtain ⟨wa1, wx1, rfl, _⟩ := hG.o1.form
              obtain ⟨wa2, wx2, rfl, _⟩ := hG.o2.form
              have hlt4 : H.next + 1 < H4.next := by have := hG.keep.next; omega
              refine mwalk (both g1 (both g2 (both g4 (both g7 (both g10 (both hgg (both hgg2 (both hgg4 hg4)))))))) ?_
              refine walk (both g4 hg4) ?_
              have hN2 : n.toNat = i := by omega
              refine ⟨(((kb.then hG.keep).then (hk4.then hk5)).set _ hlt4 (by omega)), _, fun b hb => .inr (by have := hG.blk b hb; have := hk4.next; have := hk5.next; simp; omega), ?_, rfl⟩
              rw [hN2, hcbe]
              have hR := hG.ref.kept (hk4.then hk5)
              obtain ⟨a1, c1, x1, a2, c2, x2, e6, q1, q2, q3⟩ := hR
              simp only [AV.agg.injEq, List.cons.injEq, and_true] at e6
              obtain ⟨e7, e8⟩ := e6
              rw [e7, e8]
              have t1 := own_ne ((hG.o1.kept (hk4.then hk5))) hg4 (by decide)
              have t2 := own_ne ((hG.o2.kept (hk4.then hk5))) hg4 (by decide)
              rw [e7] at t1
              rw [e8] at t2
              exact ⟨_, _, _, _, _, _, rfl, q1.set _ (fun e => t1 _ e rfl), q2.set _ (fun e => t2 _ e rfl), q3.set _ (fun e => t1 _ e rfl)⟩
            · refine walk (both g1 (both g2 (both g4 (both g7 (both g10 (both hf2 hgg)))))) ?_
              have hcut : (cutH Has n.toNat).length ≤ 1024 := by unfold cutH; simp; omega
              have hc1 : Has.count true ≤ 1024 := Nat.le_trans List.count_le_length hH
              have hc2 : (cutH Has n.toNat).count true ≤ 1024 := Nat.le_trans List.count_le_length hcut
              generalize cutH Has n.toNat = CH at *
              refine Wq.regionM [(1, 0), (2, 0), (3, 2), (4, 0), (0, 3), (6, 0), (5, 0), (7, 0), (8, 0)] (by kernel_rfl) ?_
              refine mwalk (both g1 (both g2 (both g4 (both g7 (both g10 (both hf2 hgg)))))) ?_
              refine (rblocks_ok B Has (by omega) _ H' (hvb.kept hG.keep)).mono fun w H2 hn2 ⟨e4, hk4⟩ => ?_
              subst e4
              have hgg2 := (hk4.get hgl).trans hgg
              refine mwalk (both g1 (both g2 (both g4 (both g7 (both g10 (both hgg hgg2)))))) ?_
              refine (rblocks_ok CB CH (by omega) _ H2 (hG.ref.kept hk4)).mono fun w H4 hn4 ⟨e5, hk5⟩ => ?_
              subst e5
              have hgg4 := (hk5.get (by omega)).trans hgg2
              have hg4 := ((hk4.then hk5).get (show H.next + 1 < H'.next by have := hG.keep.next; omega)).trans ((hG.keep.get (show H.next + 1 < Hb.next by omega)).trans gb4)
              obtain ⟨wa1, wx1, rfl, _⟩ := hG.o1.form
              obtain ⟨wa2, wx2, rfl, _⟩ := hG.o2.form
              have hlt4 : H.next + 1 < H4.next := by have := hG.keep.next; omega
              refine mwalk (both g1 (both g2 (both g4 (both g7 (both g10 (both hgg (both hgg2 (both hgg4 hg4)))))))) ?_
              refine walk (both g4 hg4) ?_
              have hN2 : n.toNat = i := by omega
              refine ⟨(((kb.then hG.keep).then (hk4.then hk5)).set _ hlt4 (by omega)), _, fun b hb => .inr (by have := hG.blk b hb; have := hk4.next; have := hk5.next; simp; omega), ?_, rfl⟩
              rw [hN2, hcbe]
              have hR := hG.ref.kept (hk4.then hk5)
              obtain ⟨a1, c1, x1, a2, c2, x2, e6, q1, q2, q3⟩ := hR
              simp only [AV.agg.injEq, List.cons.injEq, and_true] at e6
              obtain ⟨e7, e8⟩ := e6
              rw [e7, e8]
              have t1 := own_ne ((hG.o1.kept (hk4.then hk5))) hg4 (by decide)
              have t2 := own_ne ((hG.o2.kept (hk4.then hk5))) hg4 (by decide)
              rw [e7] at t1
              rw [e8] at t2
              exact ⟨_, _, _, _, _, _, rfl, q1.set _ (fun e => t1 _ e rfl), q2.set _ (fun e => t2 _ e rfl), q3.set _ (fun e => t1 _ e rfl)⟩
end Go.Abs

/- Chapter 04: the document's answer, walked: writes. -/
namespace Go.Abs
open Go.Proofs
set_option maxRecDepth 100000
set_option linter.unusedVariables false
set_option linter.unusedSimpArgs false

/-- What the reference leaves of a file that is written. -/
structure RWrote (B : List UInt8) (Has : List Bool) (off : Int) (b : List UInt8) (B' : List UInt8) (Has' : List Bool) : Prop where
  len : (B'.length : Int) = max (B.length : Int) (off + b.length)
  get : ∀ q : Nat, B'.getD q 0 = if off ≤ (q : Int) ∧ (q : Int) < off + b.length then b.getD ((q : Int) - off).toNat 0 else B.getD q 0
  hlen : Has'.length * 64 < B'.length + 64
  has : ∀ k, hasF Has' k = (hasF Has k || (decide (off / 64 ≤ k) && decide (64 * k < off + b.length)))

theorem getD_zeros (B : List UInt8) (j q : Nat) : (B ++ zeroB j).getD q 0 = B.getD q 0 := by
  by_cases h : q < B.length
  · rw [getD_appL h]
  · rw [getD_appR (by omega)]
    have e1 : (zeroB j).getD (q - B.length) 0 = 0 := by
      simp only [zeroB, List.getD, List.getElem?_replicate]
      split <;> rfl
    rw [e1]
    simp [List.getD, List.getElem?_eq_none (by omega : B.length ≤ q)]
theorem hasF_falses (Has : List Bool) (j : Nat) (k : Int) : hasF (Has ++ List.replicate j false) k = hasF Has k := by
  unfold hasF
  congr 1
  by_cases h : k.toNat < Has.length
  · rw [getD_appL h]
  · rw [getD_appR (by omega)]
    have e1 : (List.replicate j false).getD (k.toNat - Has.length) false = false := by
      simp only [List.getD, List.getElem?_replicate]
      split <;> rfl
    rw [e1]
    simp [List.getD, List.getElem?_eq_none (by omega : Has.length ≤ k.toNat)]
theorem getD_set {α : Type} (l : List α) (i q : Nat) (x d : α) (h : i < l.length) : (l.set i x).getD q d = if q = i then x else l.getD q d := by
  by_cases e : q = i
  · subst e; simp [List.getD, h]
  · simp [List.getD, List.getElem?_set, e, fun h => e (Eq.symm h)]
    rw [if_neg (fun h => e h.symm)]
theorem hasF_set (Has : List Bool) (i : Nat) (h : i < Has.length) (k : Int) : hasF (Has.set i true) k = (hasF Has k || decide (k = i)) := by
  unfold hasF
  rw [getD_set _ _ _ _ _ h]
  by_cases e : k.toNat = i
  · by_cases h0 : 0 ≤ k
    · have : k = i := by omega
      simp [h0, e, this]
    · have : k ≠ i := by omega
      simp [h0, this]
  · have : k ≠ i := by omega
    simp [e, this]

set_option maxHeartbeats 2000000 in
theorem rwrite_ok (B : List UInt8) (Has : List Bool) (hB : B.length ≤ 65536) (hH : Has.length * 64 < B.length + 64) (off room : Int) (hof : -9223372036854775808 ≤ off ∧ off ≤ 9223372036854775807) (b : List UInt8) (hbl : b.length ≤ 300) (bv v : AV) (H : Heap) (h : RefR H v B Has) (hb : Sl H 1 bv b.length (cellsOfBytes b)) :
    Cl Try.prog pr04 22 [v, .int .i64 off, bv, .int .i64 room] H fun w H' => Keep H H' ∧ ∃ u B' Has', (∀ q, blkOf u q → blkOf v q ∨ (H.next ≤ q ∧ q < H'.next)) ∧ RefR H' u B' Has' ∧
      w = .tuple [u, .int .i64 (if off < 0 ∨ off > 65536 ∨ (b.length : Int) > 65536 - off ∨ needN (hasF Has) off b.length > room then 0 else needN (hasF Has) off b.length), .int .i64 (if off < 0 then 22 else if off > 65536 ∨ (b.length : Int) > 65536 - off then 27 else if needN (hasF Has) off b.length > room then 28 else 0)] ∧
      ((off < 0 ∨ off > 65536 ∨ (b.length : Int) > 65536 - off ∨ needN (hasF Has) off b.length > room ∨ b.length = 0) ∧ B' = B ∧ Has' = Has ∨
        ¬ (off < 0 ∨ off > 65536 ∨ (b.length : Int) > 65536 - off ∨ needN (hasF Has) off b.length > room ∨ b.length = 0) ∧ RWrote B Has off b B' Has') := by
  have hv := h
  obtain ⟨a, c, x, a', c', x', rfl, h1, h2, hLv⟩ := h
  obtain ⟨ba, bc, bx, rfl, hcap, hex⟩ := hb.form
  have k3 : ∀ o1 o2 o3, Keep H (((H.push o1).push o2).set (H.next + 1) o3) := fun o1 o2 o3 => ((Upd.rfl.push _).push _).set _ (by simp) (by omega)
  refine Cl.enter Try.func22 rfl rfl Try.ntmps22 (by simp) ?_
  by_cases c1 : off < 0
  · refine walk none0 ?_
    exact ⟨k3 _ _ _, _, B, Has, fun q hq => .inl hq, hv.kept (k3 _ _ _), by rw [if_pos (.inl c1), if_pos c1], .inl ⟨.inl c1, rfl, rfl⟩⟩
  by_cases c2 : off > 65536
  · refine walk none0 ?_
    exact ⟨k3 _ _ _, _, B, Has, fun q hq => .inl hq, hv.kept (k3 _ _ _), by rw [if_pos (.inr (.inl c2)), if_neg c1, if_pos (.inl c2)], .inl ⟨.inr (.inl c2), rfl, rfl⟩⟩
  by_cases c3 : (b.length : Int) > 65536 - off
  · refine walk none0 ?_
    exact ⟨k3 _ _ _, _, B, Has, fun q hq => .inl hq, hv.kept (k3 _ _ _), by rw [if_pos (.inr (.inr (.inl c3))), if_neg c1, if_pos (.inr c3)], .inl ⟨.inr (.inr (.inl c3)), rfl, rfl⟩⟩
  refine walk none0 ?_
  generalize hHb : (H.push (AObj.cells [AV.slice a B.length c x, AV.slice a' Has.length c' x'] 28 true false)).push (AObj.cells [AV.slice none 0 0 none, AV.slice none 0 0 none] 28 true false) = Hb
  have kb : Keep H Hb := by subst hHb; exact (Upd.rfl.push _).push _
  have nb : Hb.next = H.next + 2 := by subst hHb; simp
  have gb2 : Hb.get H.next = some (.cells [.slice a B.length c x, .slice a' Has.length c' x'] 28 true false) := by subst hHb; simp
  have gb4 : Hb.get (H.next + 1) = some (.cells [.slice none 0 0 none, .slice none 0 0 none] 28 true false) := by subst hHb; simp
  refine (rneed_ok B Has off b.length hof (by omega) _ Hb (hv.kept kb)).mono fun w H1 hn1 ⟨e1, k1⟩ => ?_
  subst e1
  have gb2' := (k1.get (by omega)).trans gb2
  have gb4' := (k1.get (by omega)).trans gb4
  have n8 : H.next + 1 < H1.next := by omega
  generalize hneed : needN (hasF Has) off b.length = need at *
  have k4 : ∀ o3, Keep H (H1.set (H.next + 1) o3) := fun o3 => (kb.then k1).set _ n8 (by omega)
  by_cases c4 : need > room
  · refine walk (both gb2' gb4') ?_
    exact ⟨k4 _, _, B, Has, fun q hq => .inl hq, hv.kept (k4 _), by rw [if_pos (.inr (.inr (.inr c4))), if_neg c1, if_neg (by omega), if_pos c4], .inl ⟨.inr (.inr (.inr (.inl c4))), rfl, rfl⟩⟩
  by_cases c5 : b.length = 0
  · obtain rfl : b = [] := List.eq_nil_of_length_eq_zero c5
    have hneed0 : need = 0 := by rw [← hneed]; unfold needN; rw [if_pos (by simp)]
    refine walk (both gb2' gb4') ?_
    exact ⟨k4 _, _, B, Has, fun q hq => .inl hq, hv.kept (k4 _), by rw [if_neg (by simp; simp at c3; omega), if_neg c1, if_neg (by simp; simp at c3; omega), if_neg c4, hneed0], .inl ⟨.inr (.inr (.inr (.inr rfl))), rfl, rfl⟩⟩
  have c5b : b ≠ [] := by rintro rfl; exact c5 rfl
  refine walk (both gb2' (both gb4' c5b)) ?_
  refine (own_ok B Has hB (by omega) _ H1 (hv.kept (kb.then k1))).mono fun w H2 hn2 ⟨v1, v2, e2, f1, f2, _⟩ => ?_
  subst e2
  obtain ⟨wa1, wx1, rfl, _⟩ := f1.own.form
  obtain ⟨wa2, wx2, rfl, _⟩ := f2.own.form
  refine walk none0 ?_
  have hG0 : G2 H1 ((H2.push (AObj.cells [AV.slice none 0 0 none, AV.slice none 0 0 none] 28 true false)).set H2.next (AObj.cells [AV.slice wa1 B.length B.length wx1, AV.slice wa2 Has.length Has.length wx2] 28 true false)) H2.next (.slice wa1 B.length B.length wx1) (.slice wa2 Has.length Has.length wx2) B Has := by
    refine ⟨by simp, (f1.own.push _).set _ (fun e => by have := f1.own.lt _ e; omega), (f2.own.push _).set _ (fun e => by have := f2.own.lt _ e; omega), (f1.keep.push _).set _ (by simp) (fun hh => by have := f1.keep.next; omega), f1.keep.next, by simp, f1.new, f2.new⟩
  have hbb := hb.kept (kb.then k1)
  clear hneed
  generalize hGn : H2.next = G at *
  -- the bytes
  refine Wq.loop (fun m e H' => ∃ (j : Nat) (v1 : AV), e 1 = .int .i64 off ∧ e 2 = .slice ba b.length bc bx ∧ e 8 = .ptr (some (H.next + 1, 0)) ∧ e 11 = .int .i64 need ∧ e 12 = .ptr (some (G, 0)) ∧ (j = 0 ∨ (B.length : Int) + j ≤ off + b.length) ∧ m = 70000 - j ∧ j ≤ 66000 ∧ G2 H1 H' G v1 (.slice wa2 Has.length Has.length wx2) (B ++ zeroB j) Has) 70000 ?_ ?_
  · exact ⟨0, _, by simp, by simp, by simp, by simp, by simp, .inl rfl, by omega, by omega, by simpa [zeroB] using hG0⟩
  · clear hG0
    rintro m e H' ⟨j, v1, g1, g2, g8, g11, g12, hj, rfl, hj2, hG⟩
    have hgg := hG.hg
    have hgl := hG.gl
    have hlB : (B ++ zeroB j).length = B.length + j := by simp [zeroB]
    obtain ⟨ua, ux, rfl, _⟩ := hG.o1.form
    by_cases hlt : (B.length : Int) + j < off + b.length
    · refine walk (both g1 (both g2 (both g8 (both g11 (both g12 hgg))))) ?_
      refine Oq.append (own := (hG.push _).o1) (new := cellsOfBytes [0]) (m := 1) (by simp (disch := omega) [g1, g2, g8, g11, g12, hgg, cellsOfBytes, -getElem?_pos, wrapI64, tdivN, tmodN, ipos, ineg, dpos, dneg, slc_l, slc_h, slc_lh, slc_hm, slc_lhm, slc_0, slcR_some, slcR_none, cutS_ok, cutA_ok, byteAt_ok]; first | done | (repeat' (first | rfl | apply And.intro))) ⟨_, rfl, by simp; first | done | (repeat' (first | rfl | apply And.intro))⟩ rfl (by kernel_rfl) (by kernel_rfl) (by refine ⟨by simp, ?_⟩; simp (disch := omega) [srcCells, cellsAt, g1, g2, g8, g11, g12, hgg, cellsOfBytes, -getElem?_pos, wrapI64, tdivN, tmodN, ipos, ineg, dpos, dneg, slc_l, slc_h, slc_lh, slc_hm, slc_lhm, slc_0, slcR_some, slcR_none, cutS_ok, cutA_ok, byteAt_ok]; first | done | rfl) (by simp [cellsOfBytes]) (cellsOfBytes_one _) (by omega) (by omega) fun w1 H3 o1 b1 s1 => ?_
      obtain ⟨wb1, wy1, rfl, _⟩ := o1.form
      obtain ⟨hg3, hG3⟩ := (hG.push _).appB (C := [0]) o1 b1 s1
      refine walk (both g1 (both g2 (both g8 (both g11 (both g12 hg3))))) ?_
      have e2 : B ++ zeroB (j + 1) = B ++ zeroB j ++ [0] := by simp [zeroB, List.replicate_succ']
      rw [← e2] at hG3
      simp only [hlB] at hG3
      refine Roundq.normal (70000 - (j + 1)) (by omega) ⟨j + 1, _, by simp [g1], by simp [g2], by simp [g8], by simp [g11], by simp [g12], by omega, rfl, by omega, by simpa using hG3⟩
    · have hB1 : ∀ q, (B ++ zeroB j).getD q 0 = B.getD q 0 := getD_zeros B j
      have hB1l : ((B ++ zeroB j).length : Int) = max (B.length : Int) (off + b.length) := by rw [hlB]; omega
      refine walk (both g1 (both g2 (both g8 (both g11 (both g12 hgg))))) ?_
      generalize B ++ zeroB j = B1 at *
      generalize hv1 : AV.slice ua B1.length B1.length ux = v1 at *
      clear hlt hj
      -- the blocks
      refine Wq.loop (fun m e H' => ∃ (j : Nat) (v2 : AV), e 1 = .int .i64 off ∧ e 2 = .slice ba b.length bc bx ∧ e 8 = .ptr (some (H.next + 1, 0)) ∧ e 11 = .int .i64 need ∧ e 12 = .ptr (some (G, 0)) ∧ (j = 0 ∨ ((Has.length : Int) + j) * 64 < off + b.length + 64) ∧ m = 70000 - j ∧ j ≤ 2000 ∧ G2 H1 H' G v1 v2 B1 (Has ++ List.replicate j false)) 70000 ?_ ?_
      · exact ⟨0, _, by simp [g1], by simp [g2], by simp [g8], by simp [g11], by simp [g12], .inl rfl, by omega, by omega, by simpa using hG⟩
      · clear hG g1 g2 g8 g11 g12 hgg hgl
        rintro m e H' ⟨j, v2, g1, g2, g8, g11, g12, hj, rfl, hj2, hG⟩
        have hgg := hG.hg
        have hgl := hG.gl
        have hlH : (Has ++ List.replicate j false).length = Has.length + j := by simp
        obtain ⟨ua2, ux2, rfl, _⟩ := hG.o2.form
        by_cases hlt : ((Has.length : Int) + j) * 64 < off + b.length
        · refine walk (both g1 (both g2 (both g8 (both g11 (both g12 hgg))))) ?_
          refine Oq.append (own := (hG.push _).o2) (new := [false].map AV.bool) (m := 1) (by simp (disch := omega) [g1, g2, g8, g11, g12, hgg, -getElem?_pos, wrapI64, tdivN, tmodN, ipos, ineg, dpos, dneg, slc_l, slc_h, slc_lh, slc_hm, slc_lhm, slc_0, slcR_some, slcR_none, cutS_ok, cutA_ok, byteAt_ok]; first | done | (repeat' (first | rfl | apply And.intro))) ⟨_, rfl, by simp; first | done | (repeat' (first | rfl | apply And.intro))⟩ rfl (by kernel_rfl) (by kernel_rfl) (by refine ⟨by simp, ?_⟩; simp (disch := omega) [srcCells, cellsAt, g1, g2, g8, g11, g12, hgg, -getElem?_pos, wrapI64, tdivN, tmodN, ipos, ineg, dpos, dneg, slc_l, slc_h, slc_lh, slc_hm, slc_lhm, slc_0, slcR_some, slcR_none, cutS_ok, cutA_ok, byteAt_ok]; first | done | rfl) (by simp [g1, g2, g8, g11, g12, hgg]) (by simp [g1, g2, g8, g11, g12, hgg]) (by omega) (by omega) fun w1 H3 o1 b1 s1 => ?_
          obtain ⟨wb1, wy1, rfl, _⟩ := o1.form
          obtain ⟨hg3, hG3⟩ := (hG.push _).appH (Cs := [false]) o1 b1 s1
          refine walk (both g1 (both g2 (both g8 (both g11 (both g12 hg3))))) ?_
          have e2 : Has ++ List.replicate (j + 1) false = Has ++ List.replicate j false ++ [false] := by simp [List.replicate_succ']
          rw [← e2] at hG3
          simp only [hlH] at hG3
          refine Roundq.normal (70000 - (j + 1)) (by omega) ⟨j + 1, _, by simp [g1], by simp [g2], by simp [g8], by simp [g11], by simp [g12], by omega, rfl, by omega, by simpa using hG3⟩
        · have hH1 : ∀ k, hasF (Has ++ List.replicate j false) k = hasF Has k := hasF_falses Has j
          have hH1l : (Has ++ List.replicate j false).length * 64 < B1.length + 64 := by rw [hlH]; omega
          have hH1m : off + b.length ≤ ((Has ++ List.replicate j false).length : Int) * 64 := by rw [hlH]; omega
          refine walk (both g1 (both g2 (both g8 (both g11 (both g12 hgg))))) ?_
          generalize Has ++ List.replicate j false = Has1 at *
          generalize hv2 : AV.slice ua2 Has1.length Has1.length ux2 = v2 at *
          clear hlt hj
          -- byte by byte
          refine Wq.loop (fun m e H' => ∃ (i : Nat) (B2 : List UInt8) (Has2 : List Bool), e 1 = .int .i64 off ∧ e 2 = .slice ba b.length bc bx ∧ e 8 = .ptr (some (H.next + 1, 0)) ∧ e 11 = .int .i64 need ∧ e 12 = .ptr (some (G, 0)) ∧ e 13 = .int .i64 i ∧ i ≤ b.length ∧ m = b.length - i ∧ B2.length = B1.length ∧ Has2.length = Has1.length ∧
            (∀ q : Nat, B2.getD q 0 = if off ≤ (q : Int) ∧ (q : Int) < off + i then b.getD ((q : Int) - off).toNat 0 else B.getD q 0) ∧ (∀ k, hasF Has2 k = (hasF Has k || (decide (off / 64 ≤ k) && decide (64 * k < off + i) && decide (0 < i)))) ∧ G2 H1 H' G v1 v2 B2 Has2) b.length ?_ ?_
          · refine ⟨0, B1, Has1, by simp [g1], by simp [g2], by simp [g8], by simp [g11], by simp [g12], by simp, by omega, by omega, rfl, rfl, ?_, ?_, hG⟩
            · intro q; rw [if_neg (by omega), hB1]
            · intro k; rw [hH1]; simp
          · clear hG g1 g2 g8 g11 g12 hgg hgl
            rintro m e H' ⟨i, B2, Has2, g1, g2, g8, g11, g12, g13, hi, rfl, hl1, hl2, hq, hk, hG⟩
            have hgg := hG.hg
            have hgl := hG.gl
            by_cases hlt : i < b.length
            · obtain ⟨b1, y1, rfl, p1, p2, p3, p4⟩ := hG.at1 (by omega)
              obtain ⟨b2, y2, rfl, r1, r2, r3, r4⟩ := hG.at2 (by omega)
              have hne12 : b1 ≠ b2 := fun e => own_ne2 hG.o1 hG.o2 (by decide) b1 rfl (by rw [e]; rfl)
              obtain ⟨bb, ob, cs, t, w0, mm, rfl, hb1, hb2, hb3, hb4⟩ := ((hbb.kept hG.keep)).at (by omega)
              have hx := sub_get hb4 (i := i) (by omega)
              have hgi : b[i]? = some (b[i]'(by omega)) := List.getElem?_eq_getElem (by omega)
              have hgd : b.getD i 0 = b[i] := by simp [List.getD, hgi]
              rw [cellsOfBytes_get, hgi, Option.map_some] at hx
              generalize b[i] = y at *
              have hd : 0 ≤ (off + i) / 64 := by omega
              refine walk (both g1 (both g2 (both g8 (both g11 (both g12 g13))))) ?_
              refine Wq.regionM [(0, 0), (1, 0), (2, 0), (3, 0), (4, 0), (11, 0), (12, 0), (13, 0), (14, 0), (15, 0), (16, 0), (5, 0), (6, 2), (7, 0), (8, 0), (9, 0), (10, 0), (17, 0), (18, 0)] (by kernel_rfl) ?_
              refine mwalk (both g1 (both g2 (both g8 (both g11 (both g12 (both g13 (both hgg (both p1 (both r1 (both hb2 hx)))))))))) ?_
              refine walk g13 ?_
              have hG2 := (hG.setB (b := b1) (i := (off + i).toNat) (x := y) rfl).setH (b := b2) (i := ((off + i) / 64).toNat) (x := true) rfl
              refine Roundq.normal (b.length - (i + 1)) (by omega) ⟨i + 1, _, _, by simp [g1], by simp [g2], by simp [g8], by simp [g11], by simp [g12], by simp, by omega, rfl, by simp [hl1], by simp [hl2], ?_, ?_, hG2⟩
              · intro q
                rw [getD_set _ _ _ _ _ (by omega), hq q]
                by_cases e : q = (off + i).toNat
                · rw [if_pos e, if_pos (by omega), ← hgd]
                  congr 1
                  omega
                · rw [if_neg e]
                  by_cases e2 : off ≤ (q : Int) ∧ (q : Int) < off + i
                  · rw [if_pos e2, if_pos (by omega)]
                  · rw [if_neg e2, if_neg (by omega)]
              · intro k
                rw [hasF_set _ _ (by omega), hk k]
                rw [Bool.eq_iff_iff]
                simp
                constructor
                · rintro ((h | h) | h)
                  · exact .inl h
                  · right; omega
                  · right; omega
                · rintro (h | h)
                  · exact .inl (.inl h)
                  · by_cases e : k = ((off + i) / 64).toNat
                    · right; omega
                    · left; right; omega
            · have : i = b.length := by omega
              subst this
              have hg8 := (hG.keep.get n8).trans gb4'
              have hgl8 : H.next + 1 < H'.next := by have := hG.keep.next; omega
              obtain ⟨za1, zx1, ez1, _⟩ := hG.o1.form
              obtain ⟨za2, zx2, ez2, _⟩ := hG.o2.form
              rw [ez1, ez2] at hG hgg
              refine walk (both g1 (both g2 (both g8 (both g11 (both g12 (both g13 (both hgg hg8))))))) ?_
              refine ⟨((kb.then k1).then hG.keep).set _ hgl8 (by omega), _, B2, Has2, fun q hq => .inr (by have := hG.blk q hq; simp; omega), ?_, by rw [if_neg (by omega), if_neg c1, if_neg (by omega), if_neg c4], .inr ⟨by omega, by omega, hq, by omega, fun k => ?_⟩⟩
              · have t1 := own_ne hG.o1 hg8 (by decide)
                have t2 := own_ne hG.o2 hg8 (by decide)
                exact ⟨_, _, _, _, _, _, rfl, hG.o1.sl.set _ (fun e => t1 _ e rfl), hG.o2.sl.set _ (fun e => t2 _ e rfl), hG.o1.live.set _ (fun e => t1 _ e rfl)⟩
              · rw [hk k]
                simp [show 0 < b.length from by omega]
end Go.Abs

/- Chapter 04: the program's file and the document's are one: the plain part. -/
namespace Go.Abs
set_option linter.unusedVariables false
set_option linter.unusedSimpArgs false

/-- As many keys as truths. -/
theorem len_count {α : Type} : ∀ (n : Nat) (L : List Bool) (l : List (Int × α)), L.length = n → ionce l → (∀ k, (iget k l).isSome = hasF L k) → l.length = L.count true
  | 0, L, l, hL, ho, h => by
    obtain rfl := List.eq_nil_of_length_eq_zero hL
    cases l with
    | nil => rfl
    | cons x l =>
      have := h x.1
      simp [iget, hasF] at this
  | n + 1, L, l, hL, ho, h => by
    obtain ⟨L0, x, rfl⟩ : ∃ L0 x, L = L0 ++ [x] := by
      rcases List.eq_nil_or_concat L with rfl | ⟨L0, x, rfl⟩
      · simp at hL
      · exact ⟨L0, x, by simp⟩
    have hl0 : L0.length = n := by simp at hL; exact hL
    have hf : ∀ k, hasF (L0 ++ [x]) k = if k = n then x else hasF L0 k := by
      intro k
      unfold hasF
      by_cases e : k = n
      · subst e
        rw [if_pos rfl, getD_appR (by simp; omega)]
        simp [hl0]
      · rw [if_neg e]
        by_cases h0 : 0 ≤ k
        · by_cases h1 : k.toNat < L0.length
          · rw [getD_appL h1]
          · rw [getD_appR (by omega)]
            congr 1
            have : k.toNat - L0.length ≠ 0 := by omega
            simp [List.getD, List.getElem?_eq_none (by simp; omega : [x].length ≤ k.toNat - L0.length), List.getElem?_eq_none (by omega : L0.length ≤ k.toNat)]
        · simp [h0]
    cases x with
    | false =>
      have := len_count n L0 l hl0 ho fun k => by
        rw [h k, hf k]
        by_cases e : k = n
        · rw [if_pos e, e]
          unfold hasF
          simp [List.getD, List.getElem?_eq_none (by omega : L0.length ≤ n)]
        · rw [if_neg e]
      rw [this]; simp
    | true =>
      have h1 : (iget (n : Int) l).isSome = true := by rw [h, hf, if_pos rfl]
      have := len_count n L0 (idel n l) hl0 (ionce_idel ho) fun k => by
        rw [iget_idel ho]
        by_cases e : (n : Int) = k
        · rw [if_pos e, ← e]
          unfold hasF
          simp [List.getD, List.getElem?_eq_none (by omega : L0.length ≤ n)]
        · rw [if_neg e, h k, hf k, if_neg (fun h => e h.symm)]
      rw [idel_len, if_pos h1] at this
      have h0 : 0 < l.length := by
        cases l with
        | nil => simp [iget] at h1
        | cons _ _ => simp
      simp [List.count_append]
      omega

structure SimA (l : List (Int × Nat)) (bl : Nat → List UInt8) (size : Int) (B : List UInt8) (Has : List Bool) : Prop where
  size : size = B.length
  bmax : B.length ≤ 65536
  hlen : Has.length * 64 < B.length + 64
  dom : ∀ k, (iget k l).isSome = hasF Has k
  cel : ∀ q : Nat, cell l bl q = B.getD q 0
theorem hasF_lt {Has : List Bool} {k : Int} (h : hasF Has k = true) : 0 ≤ k ∧ k < Has.length := by
  unfold hasF at h
  simp at h
  refine ⟨h.1, ?_⟩
  have h2 := h.2
  by_cases c : k.toNat < Has.length
  · omega
  · simp [List.getD, List.getElem?_eq_none (by omega : Has.length ≤ k.toNat)] at h2

section
variable {l l' : List (Int × Nat)} {bl bl' : Nat → List UInt8} {size : Int} {B B' : List UInt8} {Has Has' : List Bool}
theorem SimA.keys (h : SimA l bl size B Has) : ∀ q, (iget q l).isSome = true → 0 ≤ q ∧ 64 * q < size := by
  intro q hq
  rw [h.dom q] at hq
  have := hasF_lt hq
  have := h.hlen
  have := h.size
  omega
theorem SimA.neg (h : SimA l bl size B Has) (j : Int) (hj : j < 0) : cell l bl j = 0 := by
  unfold cell
  cases hg : iget (j / 64) l with
  | none => rfl
  | some b =>
    have := h.keys (j / 64) (by rw [hg]; rfl)
    omega
theorem SimA.zero (h : SimA l bl size B Has) : ∀ j, size ≤ j → cell l bl j = 0 := by
  intro j hj
  have hs := h.size
  have := h.cel j.toNat
  rw [show ((j.toNat : Nat) : Int) = j from by omega] at this
  rw [this]
  simp [List.getD, List.getElem?_eq_none (by omega : B.length ≤ j.toNat)]
theorem SimA.need (h : SimA l bl size B Has) (off n : Int) : needN (fun k => (iget k l).isSome) off n = needN (hasF Has) off n := by
  congr 1
  funext k
  exact h.dom k
theorem SimA.nil : SimA [] bl 0 [] [] := ⟨rfl, by simp, by simp, fun k => by simp [iget, hasF], fun q => by simp [cell, iget]⟩
theorem SimA.wrote {H H' : Heap} {p r : Nat} {off : Int} {b : List UInt8} {C : Nat} (h : SimA l bl size B Has) (w : Wrote H H' p r l l' bl bl' (if 0 < b.length then max size (off + b.length) else size) off b (off + b.length) C) (r : RWrote B Has off b B' Has')
    (h0 : 0 < b.length) (ho : 0 ≤ off) (hm : off + b.length ≤ 65536) (hC : C = cntOf off b.length) : SimA l' bl' (if 0 < b.length then max size (off + b.length) else size) B' Has' := by
  have hs := h.size
  have hb := h.bmax
  have hl := r.len
  rw [if_pos h0]
  refine ⟨by omega, by omega, r.hlen, fun k => ?_, fun q => ?_⟩
  · rw [w.som k, h.dom k, r.has k]
    congr 1
    rw [Bool.eq_iff_iff]
    simp
    subst hC
    unfold cntOf
    intro _
    omega
  · rw [w.cel q, r.get q]
    by_cases c : off ≤ (q : Int) ∧ (q : Int) < off + b.length
    · rw [if_pos c, if_pos c]
    · rw [if_neg c, if_neg c]; exact h.cel q
theorem SimA.cut {n : Int} (h : SimA l bl size B Has) (hn : 0 ≤ n ∧ n ≤ 65536) (hc : ∀ j, cell l' bl' j = if j < n then cell l bl j else 0) (hs : ∀ q, (iget q l').isSome = ((iget q l).isSome && decide (64 * q < n))) : SimA l' bl' n (cutB B n.toNat) (cutH Has n.toNat) := by
  refine ⟨by rw [cutB_len]; omega, by rw [cutB_len]; omega, ?_, fun k => ?_, fun q => ?_⟩
  · rw [cutB_len]; unfold cutH; simp; omega
  · rw [hs k, h.dom k]
    unfold hasF cutH
    by_cases h0 : 0 ≤ k
    · simp only [List.getD, List.getElem?_take]
      by_cases c : 64 * k < n
      · rw [if_pos (by omega)]; simp [c]
      · rw [if_neg (by omega)]; simp [c]
    · simp [h0]
  · rw [hc q]
    have e : (cutB B n.toNat).getD q 0 = if (q : Int) < n then B.getD q 0 else 0 := by
      unfold cutB
      by_cases c : (q : Int) < n
      · rw [if_pos c]; simp [List.getD, List.getElem?_range (by omega : q < n.toNat)]
      · rw [if_neg c]; simp [List.getD, List.getElem?_eq_none (by simp; omega : (List.range n.toNat).length ≤ q)]
    rw [e, h.cel q]
end
end Go.Abs

/- Chapter 04: acts that come in, cut small. -/
namespace Go.Abs
open Go.Proofs
set_option maxRecDepth 100000
set_option linter.unusedVariables false
set_option linter.unusedSimpArgs false

structure Act where
  kind : Int
  pos : Int
  b : List UInt8
  room : Int

def i64 (z : Int) : Prop := -9223372036854775808 ≤ z ∧ z ≤ 9223372036854775807
/-- The cells of an act; its bytes lie in blocks of which ok speaks. -/
def ActC (H : Heap) (ok : Nat → Prop) (cs : List AV) (x : Act) : Prop := ∃ vb, cs = [.int .i64 x.kind, .int .i64 x.pos, vb, .int .i64 x.room] ∧ Sl H 1 vb x.b.length (cellsOfBytes x.b) ∧ (∀ b, slBlock vb = some b → ok b) ∧ i64 x.kind ∧ i64 x.pos ∧ i64 x.room ∧ x.b.length ≤ maxLen
def ActsR (H : Heap) (ok : Nat → Prop) (v : AV) (l : List Act) : Prop := ∃ cs, Sl H 4 v l.length cs ∧ (∀ b, slBlock v = some b → ok b) ∧ ∀ i x, l[i]? = some x → ActC H ok ((cs.drop (i * 4)).take 4) x

theorem ActC.upd {H H' : Heap} {ok fp : Nat → Prop} {cs : List AV} {x : Act} (h : ActC H ok cs x) (u : Upd fp H H') (hd : ∀ b, ok b → ¬ fp b) : ActC H' ok cs x := by
  obtain ⟨vb, h1, h2, h3, h4⟩ := h
  exact ⟨vb, h1, h2.upd u fun b hb _ => hd b (h3 b hb), h3, h4⟩
theorem ActC.mono {H : Heap} {ok ok' : Nat → Prop} {cs : List AV} {x : Act} (h : ActC H ok cs x) (hd : ∀ b, ok b → ok' b) : ActC H ok' cs x := by
  obtain ⟨vb, h1, h2, h3, h4⟩ := h
  exact ⟨vb, h1, h2, fun b hb => hd b (h3 b hb), h4⟩
theorem ActsR.upd {H H' : Heap} {ok fp : Nat → Prop} {v : AV} {l : List Act} (h : ActsR H ok v l) (u : Upd fp H H') (hd : ∀ b, ok b → ¬ fp b) : ActsR H' ok v l := by
  obtain ⟨cs, h1, h2, h3⟩ := h
  exact ⟨cs, h1.upd u fun b hb _ => hd b (h2 b hb), h2, fun i x hi => (h3 i x hi).upd u hd⟩
theorem ActsR.mono {H : Heap} {ok ok' : Nat → Prop} {v : AV} {l : List Act} (h : ActsR H ok v l) (hd : ∀ b, ok b → ok' b) : ActsR H ok' v l := by
  obtain ⟨cs, h1, h2, h3⟩ := h
  exact ⟨cs, h1, fun b hb => hd b (h2 b hb), fun i x hi => (h3 i x hi).mono hd⟩

theorem act_of {H : Heap} {cs : List AV} (h : Pic Try.prog H 3 33 cs) : ∃ x, ActC H (fun b => b < H.next) cs x := by
  unfold Pic at h
  simp only [Try.underlying33] at h
  obtain ⟨hl, hf⟩ := h
  have c3 : Try.prog.cellsOf 3 = 1 := by kernel_rfl
  have c25 : Try.prog.cellsOf 25 = 1 := by kernel_rfl
  have c33 : Try.prog.cellsOf 33 = 4 := by kernel_rfl
  rw [c33] at hl
  match cs, hl with
  | [a, b, c, d], _ =>
    simp [c3, c25] at hf
    obtain ⟨h0, h1, h2, h3⟩ := hf
    obtain ⟨k, e0, w0⟩ := pic_int (k := .i64) Try.underlying3 h0
    obtain ⟨p, e1, w1⟩ := pic_int (k := .i64) Try.underlying3 h1
    obtain ⟨r, e3, w3⟩ := pic_int (k := .i64) Try.underlying3 h3
    obtain ⟨bs, s1, s2, s3⟩ := pic_bytes Try.underlying25 (by kernel_rfl) Try.underlying5 h2
    simp at e0 e1 e3
    subst e0; subst e1; subst e3
    exact ⟨⟨k, p, bs, r⟩, c, rfl, s1, s3, i64_wf w0, i64_wf w1, i64_wf w3, s2⟩

theorem acts_of {H : Heap} {v : AV} (h : Pic Try.prog H 4 22 [v]) : ∃ l, l.length ≤ maxLen ∧ ActsR H (fun b => b < H.next) v l := by
  obtain ⟨len, c, h1, h2, h3, h4⟩ := pic_slice (s := 4) Try.underlying22 (by kernel_rfl) h
  obtain ⟨l, hl, hp⟩ := list_of fun i hi => act_of (h4 i hi)
  exact ⟨l, by omega, c, by rw [hl]; exact h1, h3, hp⟩

def smallA (x : Act) : Act := ⟨x.kind, if 3000 < x.pos ∧ x.pos < 65000 then x.pos % 3000 else x.pos, x.b.take 300, x.room⟩

set_option maxHeartbeats 1000000 in
theorem small_ok (v : AV) (l : List Act) (hll : l.length ≤ maxLen) (H : Heap) (ok : Nat → Prop) (hokn : ∀ b, ok b → b < H.next) (h : ActsR H ok v l) :
    Cl Try.prog pr04 8 [v] H fun w H' => Keep H H' ∧ ActsR H' (fun b => ok b ∨ (H.next ≤ b ∧ b < H'.next)) w ((l.take 25).map smallA) := by
  unfold maxLen at hll
  obtain ⟨cs, h1, h2, h3⟩ := h
  obtain ⟨a, cap, ex, rfl, hcap, hex⟩ := h1.form
  refine Cl.enter Try.func8 rfl rfl Try.ntmps8 (by simp) ?_
  refine Wq.seq ?_
  refine walkr none0 ?_
  refine Wq.seq (Wq.mono (Q := fun x e2 H2 => x = .normal ∧ H2 = H ∧ ∃ cap', e2 0 = .slice a (l.take 25).length cap' ex ∧ (l.take 25).length ≤ cap') ?_ ?_)
  · by_cases c1 : 25 < l.length
    · obtain ⟨b, o, c, t, w, m, rfl, _⟩ := h1.at (by omega)
      have hl25 : min 25 l.length = 25 := by omega
      refine walk (both hex hl25) ?_
      refine ⟨rfl, rfl, _, by simp [hl25]; rfl, by simp; omega⟩
    · have hl25 : min 25 l.length = l.length := by omega
      refine walk none0 ?_
      exact ⟨rfl, rfl, cap, by simp [hl25], by simp; omega⟩
  rintro x e H2 hn2 ⟨rfl, rfl, cap', g0, hcap'⟩
  have hl25 : (l.take 25).length ≤ 25 := by simp; omega
  have hls : (l.take 25).length ≤ l.length := by simp; omega
  have hget : ∀ (i : Nat) (x : Act), (l.take 25)[i]? = some x → l[i]? = some x := by
    intro i x hx
    rw [List.getElem?_take] at hx
    split at hx
    · exact hx
    · cases hx
  generalize l.take 25 = L at *
  refine Thenq.normal ?_
  refine walk g0 ?_
  refine Wq.loop (fun m e H' => ∃ (j : Nat) (w : AV) (ds : List AV), j ≤ L.length ∧ e 0 = .slice a L.length cap' ex ∧ e 3 = w ∧ e 4 = .int .i64 j ∧ m = L.length - j ∧ Fresh H2 H' 33 4 w j ds ∧ ∀ (i : Nat) (x : Act), i < j → L[i]? = some x → ActC H' ok ((ds.drop (i * 4)).take 4) (smallA x)) L.length ?_ ?_
  · exact ⟨0, _, [], by omega, by simp [g0], by simp; rfl, by simp, by omega, Fresh.made (Upd.rfl.push _) (by simp) (by omega) (by simp) (by simp), fun i x hi => by omega⟩
  · clear g0
    rintro m e H' ⟨j, w, ds, hj, g0, g3, g4, rfl, hf, hds⟩
    by_cases hlt : j < L.length
    · obtain ⟨x, hx⟩ : ∃ x, L[j]? = some x := ⟨L[j], by simp [hlt]⟩
      obtain ⟨vb, hc, hS, hok, r1, r2, r3, r4⟩ := (h3 j x (hget j x hx)).upd hf.keep fun _ _ => id
      obtain ⟨b, o, c, t, w0, mm, rfl, hb1, hb2, hb3, hb4⟩ := (h1.kept hf.keep).at (by omega)
      have hs := sub_take hb4 (i := j * 4) (k := 4) (by omega)
      rw [hc] at hs
      obtain ⟨va, vc, vx, rfl, hvc, hvx⟩ := hS.form
      have hfit : o + j * 4 + 4 ≤ c.length := by omega
      unfold maxLen at r4
      unfold i64 at r1 r2 r3
      have hsz : Fresh H2 H' 33 4 w j ds := hf
      refine walk (both g0 (both g3 (both g4 (both hb2 (both hs hfit))))) ?_
      refine Wq.gen (fun Hs => Keep H' Hs ∧ Hs.get H'.next = some (.cells [.int .i64 x.kind, .int .i64 x.pos, .slice va x.b.length vc vx, .int .i64 x.room] 33 true false) ∧ Hs.next = H'.next + 1) ⟨(Upd.rfl.push _).set _ (by simp) (by omega), by simp, by simp⟩ fun Hs ⟨hks, hgs, hns⟩ => ?_
      refine Wq.mono (Q := fun y e2 Hx => y = .normal ∧ e2 0 = e 0 ∧ e2 3 = e 3 ∧ e2 4 = e 4 ∧ e2 5 = .ptr (some (H'.next, 0)) ∧ Keep H' Hx ∧ Hx.next = H'.next + 1 ∧ ∃ va' vc', Hx.get H'.next = some (.cells [.int .i64 x.kind, .int .i64 x.pos, .slice va' (x.b.take 300).length vc' vx, .int .i64 x.room] 33 true false) ∧ Sl H' 1 (.slice va' (x.b.take 300).length vc' vx) (x.b.take 300).length (cellsOfBytes (x.b.take 300)) ∧ (∀ b, slBlock (.slice va' (x.b.take 300).length vc' vx) = some b → ok b)) ?_ ?_
      · by_cases c1 : 300 < x.b.length
        · obtain ⟨qb, qo, qc, qt, qw, qm, rfl, q1, q2, q3, q4⟩ := hS.at (by omega)
          have hl3 : (x.b.take 300).length = 300 := by simp; omega
          have hm3 : min 300 x.b.length = 300 := by omega
          refine walk (both hgs hvx) ?_
          refine ⟨rfl, by simp, by simp, by simp, by simp, hks.set _ (by omega) (by omega), by simp [hns], some (qb, qo), vc, by simp [hm3], ?_, fun b hb => hok b hb⟩
          unfold Sl
          refine ⟨by rw [cellsOfBytes_len, hl3], .inr ⟨qb, qo, vc, vx, by rw [hl3], by omega, hvx, fun _ => ⟨q1, qc, qt, qw, qm, q2, by omega, ?_⟩⟩⟩
          have := sub_take q4 (i := 0) (k := 300) (by omega)
          rw [hl3, ← cellsOfBytes_take]
          simpa using this
        · have hl3 : x.b.take 300 = x.b := List.take_of_length_le (by omega)
          rw [hl3]
          refine walk none0 ?_
          exact ⟨rfl, by simp, by simp, by simp, by simp, hks, hns, va, vc, hgs, hS, hok⟩
      clear hgs hks hns hS hok
      rintro y e2 Hx hnx ⟨rfl, k0, k3, k4, k5, hkx, hnx, va', vc', hgx, hS, hok⟩
      rw [g0] at k0; rw [g3] at k3; rw [g4] at k4
      refine Thenq.normal ?_
      refine Wq.seq ?_
      refine Wq.mono (Q := fun y e3 Hy => y = .normal ∧ e3 0 = e2 0 ∧ e3 3 = e2 3 ∧ e3 4 = e2 4 ∧ e3 5 = .ptr (some (H'.next, 0)) ∧ Keep H' Hy ∧ Hy.next = H'.next + 1 ∧ Hy.get H'.next = some (.cells [.int .i64 x.kind, .int .i64 (smallA x).pos, .slice va' (x.b.take 300).length vc' vx, .int .i64 x.room] 33 true false)) ?_ ?_
      · have hq : (0 : Int) ≤ 3000 := by omega
        by_cases c1 : 3000 < x.pos
        · by_cases c2 : x.pos < 65000
          · have e1 : (smallA x).pos = x.pos % 3000 := by unfold smallA; simp [c1, c2]
            refine walk (both k0 (both k3 (both k4 (both k5 hgx)))) ?_
            exact ⟨rfl, by simp, by simp, by simp, by simp [k5], hkx.set _ (by omega) (by omega), by simp [hnx], by simp [e1]⟩
          · have e1 : (smallA x).pos = x.pos := by unfold smallA; simp [c2]
            refine walk (both k0 (both k3 (both k4 (both k5 hgx)))) ?_
            exact ⟨rfl, by simp, by simp, by simp, by simp [k5], hkx, hnx, by rw [e1]; exact hgx⟩
        · have e1 : (smallA x).pos = x.pos := by unfold smallA; simp [c1]
          refine walk (both k0 (both k3 (both k4 (both k5 hgx)))) ?_
          exact ⟨rfl, by simp, by simp, by simp, by simp [k5], hkx, hnx, by rw [e1]; exact hgx⟩
      clear hgx hkx hnx k5
      rintro y e3 Hy hny ⟨rfl, m0, m3, m4, k5, hky, hny, hgy⟩
      rw [k0] at m0; rw [k3] at m3; rw [k4] at m4
      refine Thenq.normal ?_
      refine walk (both m0 (both m3 (both m4 (both k5 hgy)))) ?_
      refine Oq.append (own := ((hf.then hky).push _).own) (new := [.int .i64 x.kind, .int .i64 (smallA x).pos, .slice va' (x.b.take 300).length vc' vx, .int .i64 x.room]) (m := 1) (by simp (disch := omega) [m0, m3, m4, k5, hgy, -getElem?_pos, wrapI64, tdivN, tmodN, ipos, ineg, dpos, dneg, slc_l, slc_h, slc_lh, slc_hm, slc_lhm, slc_0, slcR_some, slcR_none, cutS_ok, cutA_ok, byteAt_ok]; first | done | (repeat' (first | rfl | apply And.intro))) ⟨_, rfl, by simp; first | done | (repeat' (first | rfl | apply And.intro))⟩ rfl (by kernel_rfl) (by kernel_rfl) (by refine ⟨by simp, ?_⟩; simp (disch := omega) [srcCells, cellsAt, m0, m3, m4, k5, hgy, -getElem?_pos, wrapI64, tdivN, tmodN, ipos, ineg, dpos, dneg, slc_l, slc_h, slc_lh, slc_hm, slc_lhm, slc_0, slcR_some, slcR_none, cutS_ok, cutA_ok, byteAt_ok]; first | done | rfl) (by simp [m0, m3, m4, k5, hgy]) (by simp [m0, m3, m4, k5, hgy]) (by omega) (by omega) fun w1 H3 o1 b1 s1 => ?_
      refine walk (both m0 (both m3 (both m4 (both k5 hgy)))) ?_
      have hf2 := ((hf.then hky).push _).app o1 b1 s1
      have hdl := hf.own.len
      refine Roundq.normal (L.length - (j + 1)) (by omega) ⟨j + 1, w1, _, by omega, by simp [m0], by simp, by simp, rfl, hf2, ?_⟩
      intro i z hi hz
      have hkeep : ∀ b, ok b → H3.get b = H'.get b := fun b hb => (hf2.keep.get (hokn b hb)).trans (hf.keep.get (hokn b hb)).symm
      have hnx3 : H'.next ≤ H3.next := by have := b1.1; simp at this; omega
      by_cases hij : i = j
      · subst hij
        have hzx : z = x := by rw [hx] at hz; injection hz with hz; exact hz.symm
        subst hzx
        rw [List.drop_append_of_le_length (by omega), List.drop_eq_nil_of_le (by omega)]
        refine ⟨.slice va' (z.b.take 300).length vc' vx, by simp [smallA], ?_, hok, r1, ?_, r3, by unfold maxLen; simp [smallA]; omega⟩
        · exact hS.keep hnx3 fun b hb _ _ => hkeep b (hok b hb)
        · show -9223372036854775808 ≤ (smallA z).pos ∧ (smallA z).pos ≤ 9223372036854775807
          unfold smallA
          dsimp only
          split <;> omega
      · have e1 : (ds ++ [AV.int IntKind.i64 x.kind, AV.int IntKind.i64 (smallA x).pos, AV.slice va' (List.take 300 x.b).length vc' vx, AV.int IntKind.i64 x.room]).drop (i * 4) = ds.drop (i * 4) ++ [AV.int IntKind.i64 x.kind, AV.int IntKind.i64 (smallA x).pos, AV.slice va' (List.take 300 x.b).length vc' vx, AV.int IntKind.i64 x.room] := List.drop_append_of_le_length (by omega)
        rw [e1, List.take_append_of_le_length (by simp; omega)]
        obtain ⟨vb, p1, p2, p3, p4⟩ := hds i z (by omega) hz
        exact ⟨vb, p1, p2.keep hnx3 fun b hb _ _ => hkeep b (p3 b hb), p3, p4⟩
    · have : j = L.length := by omega
      subst this
      refine walk (both g0 (both g3 g4)) ?_
      refine ⟨hf.keep, ds, by simpa using hf.own.sl, fun b hb => .inr ⟨hf.new b hb, hf.own.lt b hb⟩, fun i x hi => ?_⟩
      simp only [List.getElem?_map, Option.map_eq_some_iff] at hi
      obtain ⟨y, hy, rfl⟩ := hi
      have hil : i < L.length := by
        by_cases c : i < L.length
        · exact c
        · rw [List.getElem?_eq_none (by omega)] at hy; cases hy
      exact (hds i y hil hy).mono fun b hb => .inl hb
end Go.Abs

/- Chapter 04: an act done to both files. -/
namespace Go.Abs
open Go.Proofs
set_option maxRecDepth 100000
set_option linter.unusedVariables false
set_option linter.unusedSimpArgs false

theorem spans_zero_len {off : Int} : (spans off ((0 : Nat) : Int)).length = 0 := by rw [spans_nil (by omega)]; rfl
theorem trunc_all {p r : Nat} {size : Int} {l : List (Int × Nat)} {bl : Nat → List UInt8} {B : List UInt8} {Has : List Bool} (n : Int) (hn : i64 n) (H : Heap) (h : FileR H p r l bl size) (hs : SimA l bl size B Has) :
    Cl Try.prog pr04 16 [.ptr (some (p, 0)), .int .i64 n] H fun w H' => w = .tuple [.int .i64 (if n < 0 ∨ n > 65536 then 0 else (Has.count true : Int) - (cutH Has n.toNat).count true), .int .i64 (if n < 0 then 22 else if n > 65536 then 27 else 0)] ∧
      ∃ l' bl' size', FileR H' p r l' bl' size' ∧ SimA l' bl' size' (if n < 0 ∨ n > 65536 then B else cutB B n.toNat) (if n < 0 ∨ n > 65536 then Has else cutH Has n.toNat) ∧ Upd (fpF p r l) H H' ∧ ∀ b, fpF p r l' b → fpF p r l b := by
  have h1 := hs.size
  have h2 := hs.bmax
  by_cases hc : n < 0 ∨ n > 65536
  · simp only [if_pos hc]
    refine (trunc_no n H h hc).mono fun w H' hn' ⟨e1, e2⟩ => ?_
    subst e2
    refine ⟨?_, l, bl, size, h, hs, Upd.rfl, fun _ h => h⟩
    rw [e1]
    by_cases c : n < 0
    · simp only [if_pos c]
    · simp only [if_neg c, if_pos (show n > 65536 by omega)]
  · simp only [if_neg hc, if_neg (show ¬ n < 0 by omega), if_neg (show ¬ n > 65536 by omega)]
    refine (trunc_yes n H h (by omega) (by omega) hs.zero (fun q hq => (hs.keys q hq).2)).mono fun w H' hn' ⟨gone, l', bl', e1, h3, h4, h5, h6, h7, h8⟩ => ?_
    have hs' := hs.cut (by omega) h4 h5
    have c1 := len_count _ Has l rfl h.once hs.dom
    have c2 := len_count _ _ l' rfl h3.once hs'.dom
    refine ⟨?_, l', bl', n, h3, hs', h7, h8⟩
    rw [e1]
    congr 4
    omega

theorem write_all {p r : Nat} {size : Int} {l : List (Int × Nat)} {bl : Nat → List UInt8} {B : List UInt8} {Has : List Bool} (off room : Int) (ho : i64 off) (bv : AV) (b : List UInt8) (hbl : b.length ≤ 300) (H : Heap) (h : FileR H p r l bl size) (hs : SimA l bl size B Has) (hb : Sl H 1 bv b.length (cellsOfBytes b)) (hd : ∀ q, slBlock bv = some q → ¬ fpF p r l q) :
    Cl Try.prog pr04 17 [.ptr (some (p, 0)), .int .i64 off, bv, .int .i64 room] H fun w H' =>
      w = .tuple [.int .i64 (if off < 0 ∨ off > 65536 ∨ (b.length : Int) > 65536 - off ∨ needN (hasF Has) off b.length > room then 0 else needN (hasF Has) off b.length), .int .i64 (if off < 0 then 22 else if off > 65536 ∨ (b.length : Int) > 65536 - off then 27 else if needN (hasF Has) off b.length > room then 28 else 0)] ∧
      ∃ l' bl' size', FileR H' p r l' bl' size' ∧ Upd (fpF p r l) H H' ∧ (∀ q, fpF p r l' q → fpF p r l q ∨ H.next ≤ q) ∧
        (l'.length : Int) = l.length + (if off < 0 ∨ off > 65536 ∨ (b.length : Int) > 65536 - off ∨ needN (hasF Has) off b.length > room then 0 else needN (hasF Has) off b.length) ∧
        (∀ B' Has', ((off < 0 ∨ off > 65536 ∨ (b.length : Int) > 65536 - off ∨ needN (hasF Has) off b.length > room ∨ b.length = 0) ∧ B' = B ∧ Has' = Has ∨
          ¬ (off < 0 ∨ off > 65536 ∨ (b.length : Int) > 65536 - off ∨ needN (hasF Has) off b.length > room ∨ b.length = 0) ∧ RWrote B Has off b B' Has') → SimA l' bl' size' B' Has') := by
  refine Cl.wf fun hw => ?_
  have h1 := hs.size
  have h2 := hs.bmax
  have hneed := hs.need off b.length
  unfold i64 at ho
  by_cases hc : off < 0 ∨ off > 65536 ∨ (b.length : Int) > 65536 - off
  · have hbad : off < 0 ∨ off > 65536 ∨ (b.length : Int) > 65536 - off ∨ needN (hasF Has) off b.length > room := by omega
    simp only [if_pos hbad]
    refine (write_no off room H h hb hbl ho hc).mono fun w H' hn' ⟨e1, e2⟩ => ?_
    subst e2
    refine ⟨?_, l, bl, size, h, Upd.rfl, fun _ h => .inl h, by omega, fun B' Has' hw => ?_⟩
    · rw [e1]
      by_cases c : off < 0
      · simp only [if_pos c]
      · have c2 : off > 65536 ∨ (b.length : Int) > 65536 - off := by omega
        simp only [if_neg c, if_pos c2]
    · rcases hw with ⟨_, rfl, rfl⟩ | ⟨hw, _⟩
      · exact hs
      · exact absurd (by omega) hw
  · have c0 : ¬ off < 0 := by omega
    have c2 : ¬ (off > 65536 ∨ (b.length : Int) > 65536 - off) := by omega
    simp only [if_neg c0, if_neg c2]
    by_cases hr : needN (hasF Has) off b.length > room
    · have hbad : off < 0 ∨ off > 65536 ∨ (b.length : Int) > 65536 - off ∨ needN (hasF Has) off b.length > room := by omega
      simp only [if_pos hbad, if_pos hr]
      refine (write_full off room H h hb hbl (by omega) (by rw [hneed]; exact hr)).mono fun w H' hn' ⟨e1, k⟩ => ?_
      refine ⟨e1, l, bl, size, h.upd hw k fun _ _ => id, Upd.of k, fun _ h => .inl h, by omega, fun B' Has' hw => ?_⟩
      rcases hw with ⟨_, rfl, rfl⟩ | ⟨hw, _⟩
      · exact hs
      · exact absurd (by omega) hw
    · have hbad : ¬ (off < 0 ∨ off > 65536 ∨ (b.length : Int) > 65536 - off ∨ needN (hasF Has) off b.length > room) := by omega
      simp only [if_neg hbad, if_neg hr]
      refine (write_yes off room H h hb hbl hd (by omega) (by rw [hneed]; omega) (by omega)).mono fun w H' hn' ⟨e1, l', bl', hW⟩ => ?_
      rw [hneed] at e1
      have hln : (l'.length : Int) = l.length + needN (hasF Has) off b.length := by
        rw [hW.ln, ← hneed]
        congr 1
        unfold needN
        by_cases h0 : (b.length : Int) < 1
        · rw [if_pos (by omega), show b.length = 0 from by omega, spans_zero_len]; rfl
        · rw [if_neg (by omega), spans_len (by omega) (by omega)]
      refine ⟨e1, l', bl', _, hW.rep, hW.upd, hW.fp, hln, fun B' Has' hw => ?_⟩
      by_cases h0 : b.length = 0
      · rcases hw with ⟨_, rfl, rfl⟩ | ⟨hw, _⟩
        · refine ⟨?_, h2, hs.hlen, fun k => ?_, fun q => ?_⟩
          · rw [if_neg (by omega)]; exact h1
          · rw [hW.som k, hs.dom k]
            have : (decide (off / 64 ≤ k) && decide (k < off / 64 + ((spans off (b.length : Int)).length : Int))) = false := by
              rw [h0, spans_zero_len]; simp
            rw [this, Bool.or_false]
          · rw [hW.cel q, if_neg (by omega)]; exact hs.cel q
        · exact absurd (by omega) hw
      · rcases hw with ⟨hw, _⟩ | ⟨_, hR⟩
        · omega
        · exact hs.wrote hW hR (by omega) (by omega) (by omega) (spans_len (by omega) (by omega))

def wCnt (need off n room : Int) : Int := if off < 0 ∨ off > 65536 ∨ n > 65536 - off ∨ need > room then 0 else need
def wErr (need off n room : Int) : Int := if off < 0 then 22 else if off > 65536 ∨ n > 65536 - off then 27 else if need > room then 28 else 0
/-- The program's file and the document's, and what they say alike. -/
structure Both (H : Heap) (p r : Nat) (l : List (Int × Nat)) (bl : Nat → List UInt8) (size : Int) (v : AV) (B : List UInt8) (Has : List Bool) : Prop where
  rep : FileR H p r l bl size
  ref : RefR H v B Has
  sim : SimA l bl size B Has
  away : ∀ b, blkOf v b → ¬ fpF p r l b

theorem RefR.upd {H H' : Heap} {v : AV} {B : List UInt8} {Has : List Bool} {fp : Nat → Prop} (h : RefR H v B Has) (u : Upd fp H H') (hd : ∀ b, blkOf v b → ¬ fp b) : RefR H' v B Has := by
  obtain ⟨a, c, x, a', c', x', rfl, h1, h2, h3⟩ := h
  exact ⟨a, c, x, a', c', x', rfl, h1.upd u fun b hb _ => hd b ⟨_, by simp, hb⟩, h2.upd u fun b hb _ => hd b ⟨_, by simp, hb⟩, h3.upd u fun b hb => hd b ⟨_, by simp, hb⟩⟩
theorem RefR.lt {H : Heap} {v : AV} {B : List UInt8} {Has : List Bool} (h : RefR H v B Has) : ∃ s1 s2, v = .agg [s1, s2] := by
  obtain ⟨a, c, x, a', c', x', rfl, h1, h2, _⟩ := h
  exact ⟨_, _, rfl⟩

set_option maxHeartbeats 1000000 in
theorem does_ok {p r : Nat} {size : Int} {l : List (Int × Nat)} {bl : Nat → List UInt8} {v : AV} {B : List UInt8} {Has : List Bool} (x : Act) (cs : List AV) (ok : Nat → Prop) (H : Heap) (hv : ∀ b, blkOf v b → b < H.next) (h : Both H p r l bl size v B Has) (hx : ActC H ok cs x) (hxb : x.b.length ≤ 300) (hok : ∀ b, ok b → ¬ fpF p r l b) :
    Cl Try.prog pr04 9 [.ptr (some (p, 0)), v, .agg cs] H fun w H' => ∃ u l' bl' size' B' Has', w = .tuple [u, .bool true] ∧ Both H' p r l' bl' size' u B' Has' ∧ Upd (fpF p r l) H H' ∧ (∀ b, fpF p r l' b → fpF p r l b ∨ H.next ≤ b) ∧ (∀ b, blkOf u b → blkOf v b ∨ (H.next ≤ b ∧ b < H'.next)) := by
  refine Cl.wf fun hw => ?_
  obtain ⟨vb, rfl, hS, hvb, r1, r2, r3, r4⟩ := hx
  obtain ⟨va, vc, vx, rfl, hvc, hvx⟩ := hS.form
  obtain ⟨s1, s2, rfl⟩ := h.ref.lt
  have hpl := h.rep.lt hw
  unfold i64 at r1 r2 r3
  have href0 := h.ref
  obtain ⟨ga, gc, gx, ga', gc', gx', eg, _, _⟩ := h.ref
  simp only [AV.agg.injEq, List.cons.injEq, and_true] at eg
  obtain ⟨rfl, rfl⟩ := eg
  generalize hv0 : AV.agg [AV.slice ga B.length gc gx, AV.slice ga' Has.length gc' gx'] = v0 at *
  have key : ∀ (Hb H2 : Heap), Keep H Hb → Hb.next = H.next + 3 → Upd (fpF p r l) Hb H2 → ∀ j, j < 3 → H2.get (H.next + j) = Hb.get (H.next + j) := fun Hb H2 kb nb u j hj => u.keep _ (by omega) fun hf => by have := hpl _ hf; omega
  subst hv0
  refine Cl.enter Try.func9 rfl rfl Try.ntmps9 (by simp) ?_
  by_cases hk : x.kind = 1
  · refine walk hk ?_
    generalize hHb : (((H.push (AObj.cells [AV.slice ga B.length gc gx, AV.slice ga' Has.length gc' gx'] 28 true false)).push (AObj.cells [AV.int IntKind.i64 1, AV.int IntKind.i64 x.pos, AV.slice va x.b.length vc vx, AV.int IntKind.i64 x.room] 33 true false)).push (AObj.cells [AV.slice none 0 0 none, AV.slice none 0 0 none] 28 true false)) = Hb
    have kb : Keep H Hb := by subst hHb; exact ((Upd.rfl.push _).push _).push _
    have nb : Hb.next = H.next + 3 := by subst hHb; simp
    have gb0 : Hb.get (H.next + 0) = some (.cells [AV.slice ga B.length gc gx, AV.slice ga' Has.length gc' gx'] 28 true false) := by subst hHb; simp (disch := omega) [ineg]
    have gb1 : Hb.get (H.next + 1) = some (.cells [AV.int IntKind.i64 1, AV.int IntKind.i64 x.pos, AV.slice va x.b.length vc vx, AV.int IntKind.i64 x.room] 33 true false) := by subst hHb; simp (disch := omega) [ineg]
    have gb2 : Hb.get (H.next + 2) = some (.cells [AV.slice none 0 0 none, AV.slice none 0 0 none] 28 true false) := by subst hHb; simp (disch := omega) [ineg]
    have hrep := h.rep.upd hw kb fun _ _ => id
    refine (trunc_all x.pos r2 Hb hrep h.sim).mono fun w H2 hn2 ⟨e1, l', bl', size', h3, hsim, hup, hfp⟩ => ?_
    subst e1
    have k0 := (key Hb H2 kb nb hup 0 (by omega)).trans gb0
    have k1 := (key Hb H2 kb nb hup 1 (by omega)).trans gb1
    have k2 := (key Hb H2 kb nb hup 2 (by omega)).trans gb2
    rw [Nat.add_zero] at k0
    refine walk (both k0 (both k1 k2)) ?_
    have hrefb := (href0.kept kb).upd hup h.away
    refine Cl.wf fun hw2 => ?_
    refine (rtrunc_ok B Has h.sim.bmax (by have := h.sim.hlen; have := h.sim.bmax; omega) x.pos r2 _ H2 hrefb).mono fun w H3 hn3 ⟨k3, u, hu, hR, e2⟩ => ?_
    subst e2
    generalize (if x.pos < 0 ∨ x.pos > 65536 then B else cutB B x.pos.toNat) = B' at *
    generalize (if x.pos < 0 ∨ x.pos > 65536 then Has else cutH Has x.pos.toNat) = Has' at *
    generalize hcnt : (if x.pos < 0 ∨ x.pos > 65536 then (0 : Int) else ↑(List.count true Has) - ↑(List.count true (cutH Has x.pos.toNat))) = cnt
    generalize hern : (if x.pos < 0 then (22 : Int) else if x.pos > 65536 then 27 else 0) = ern
    have hR0 := hR
    obtain ⟨ua, uc, ux, ua', uc', ux', rfl, q1, q2, _⟩ := hR
    have k0 := (k3.get (by omega)).trans k0
    have k1 := (k3.get (by omega)).trans k1
    have k2 := (k3.get (by omega)).trans k2
    refine walk (both k0 (both k1 k2)) ?_
    have hfp : ∀ b, fpF p r l' b → fpF p r l b ∨ Hb.next ≤ b := fun b hb => .inl (hfp b hb)
    have u3 : Upd (fun b => b = H.next + 2) H3 (((H3.push (AObj.cells [AV.slice none 0 0 none, AV.slice none 0 0 none] 28 true false)).set H3.next (AObj.cells [AV.slice ua B'.length uc ux, AV.slice ua' Has'.length uc' ux'] 28 true false)).set (H.next + 1 + 1) (AObj.cells [AV.slice ua B'.length uc ux, AV.slice ua' Has'.length uc' ux'] 28 true false)) :=
      ((Upd.rfl.push _).set _ (by simp) (by omega)).set _ (by simp; omega) (fun _ => rfl)
    have u2 : Upd (fun b => b = H.next + 2) H2 _ := (Upd.of k3).trans u3 fun _ _ h => h
    have hlt2 := h3.lt hw2
    refine ⟨_, l', bl', size', B', Has', rfl, ⟨h3.upd hw2 u2 fun b hb e => ?_, hR0.upd u3 fun b hb e => ?_, hsim, fun b hb hf => ?_⟩, ?_, fun b hb => ?_, fun b hb => ?_⟩
    · rcases hfp b hb with h' | h'
      · have := hpl b h'; omega
      · omega
    · rcases hu b hb with h' | h'
      · have := hv b h'; omega
      · omega
    · rcases hu b hb with h' | h'
      · rcases hfp b hf with h'' | h''
        · exact h.away b h' h''
        · have := hv b h'; omega
      · have := hlt2 b hf; omega
    · exact ((Upd.of kb).trans hup fun _ _ h => h).trans u2 fun b hb e => by omega
    · rcases hfp b hb with h' | h'
      · exact .inl h'
      · exact .inr (by omega)
    · rcases hu b hb with h' | h'
      · exact .inl h'
      · exact .inr (by have := u3.next; omega)
  · refine walk hk ?_
    generalize hHb : (((H.push (AObj.cells [AV.slice ga B.length gc gx, AV.slice ga' Has.length gc' gx'] 28 true false)).push (AObj.cells [AV.int IntKind.i64 x.kind, AV.int IntKind.i64 x.pos, AV.slice va x.b.length vc vx, AV.int IntKind.i64 x.room] 33 true false)).push (AObj.cells [AV.slice none 0 0 none, AV.slice none 0 0 none] 28 true false)) = Hb
    have kb : Keep H Hb := by subst hHb; exact ((Upd.rfl.push _).push _).push _
    have nb : Hb.next = H.next + 3 := by subst hHb; simp
    have gb0 : Hb.get (H.next + 0) = some (.cells [AV.slice ga B.length gc gx, AV.slice ga' Has.length gc' gx'] 28 true false) := by subst hHb; simp (disch := omega) [ineg]
    have gb1 : Hb.get (H.next + 1) = some (.cells [AV.int IntKind.i64 x.kind, AV.int IntKind.i64 x.pos, AV.slice va x.b.length vc vx, AV.int IntKind.i64 x.room] 33 true false) := by subst hHb; simp (disch := omega) [ineg]
    have gb2 : Hb.get (H.next + 2) = some (.cells [AV.slice none 0 0 none, AV.slice none 0 0 none] 28 true false) := by subst hHb; simp (disch := omega) [ineg]
    have hrep := h.rep.upd hw kb fun _ _ => id
    refine (need_ok p r size l x.pos x.b.length (by omega) r2 Hb hrep.p0 hrep.r0).mono fun w H1 hn1 ⟨e1, kn⟩ => ?_
    subst e1
    rw [h.sim.need]
    have k0 := (kn.get (by omega)).trans gb0
    have k1 := (kn.get (by omega)).trans gb1
    have k2 := (kn.get (by omega)).trans gb2
    rw [Nat.add_zero] at k0
    have k01 := kb.then kn
    have n1 : H.next + 3 ≤ H1.next := by omega
    have hrep1 := hrep.upd (kb.wf hw) kn fun _ _ => id
    refine walk (both k0 (both k1 k2)) ?_
    refine Wq.regionM [(3, 0), (4, 0), (5, 0), (6, 0), (0, 0), (1, 0), (2, 2), (7, 0), (8, 2), (9, 0), (10, 0), (11, 0), (12, 0), (13, 0), (14, 0)] (by kernel_rfl) ?_
    refine mwalk (both k0 (both k1 k2)) ?_
    refine Dq.append (own := (OwnSl.mk (n := 0) (cs := []) (by simp) (by simp) (by simp))) (new := cellsOfBytes x.b) (q := x.b.length) rfl met_none (by simp (disch := omega) [k1, -getElem?_pos, wrapI64, tdivN, tmodN, ipos, ineg, dpos, dneg, slc_l, slc_h, slc_lh, slc_hm, slc_lhm, slc_0, slcR_some, slcR_none, cutS_ok, cutA_ok, byteAt_ok]; first | done | (repeat' (first | rfl | apply And.intro))) ⟨_, rfl, by simp; first | done | (repeat' (first | rfl | apply And.intro))⟩ rfl (by kernel_rfl) (by kernel_rfl) (((hS.kept k01).push _).src') (by simp) (cellsOfBytes_one _) (by omega) (by omega) fun w1 H2 o1 b1 s1 => ?_
    have ka : Keep H1 H2 := (Upd.rfl.push _).butOne b1 (fun b hb hl => by simp [slBlock] at hb; omega)
    have kan := ka.next
    have nb1 : ∀ b, slBlock w1 = some b → H1.next ≤ b := by
      intro b hb
      rcases s1 with s1 | s1
      · rw [s1] at hb; simp [slBlock] at hb; omega
      · rw [s1] at hb; simp at hb; omega
    rw [Nat.zero_add, List.nil_append] at o1
    obtain ⟨wa1, wx1, rfl, _⟩ := o1.form
    have k0 := (ka.get (by omega)).trans k0
    have j1 := (ka.get (by omega)).trans k1
    have k2 := (ka.get (by omega)).trans k2
    refine mwalk (both k0 (both k1 (both j1 k2))) ?_
    have hrep2 := hrep1.upd ((k01).wf hw) ka fun _ _ => id
    refine Cl.wf fun hw2 => ?_
    refine (write_all x.pos x.room r2 _ x.b hxb H2 hrep2 h.sim o1.sl (fun q hq hf => by have := nb1 q hq; have := hpl q hf; omega)).mono fun w H3 hn3 ⟨e2, l', bl', size', h3, hup, hfp, _, hsimf⟩ => ?_
    change w = .tuple [.int .i64 (wCnt (needN (hasF Has) x.pos x.b.length) x.pos x.b.length x.room), .int .i64 (wErr (needN (hasF Has) x.pos x.b.length) x.pos x.b.length x.room)] at e2
    subst e2
    have hgk : ∀ j, j < 3 → H3.get (H.next + j) = H2.get (H.next + j) := fun j hj => hup.keep _ (by have := ka.next; omega) fun hf => by have := hpl _ hf; omega
    have k0 := (hgk 0 (by omega)).trans k0
    have k1 := (hgk 1 (by omega)).trans j1
    have k2 := (hgk 2 (by omega)).trans k2
    rw [Nat.add_zero] at k0
    refine mwalk (both k0 (both k1 k2)) ?_
    refine walk (both k0 (both k1 k2)) ?_
    have hS3 := ((hS.kept (k01.then ka))).upd hup fun b hb _ => hok b (hvb b hb)
    have hrefb := (href0.kept (k01.then ka)).upd hup h.away
    refine Cl.wf fun hw3 => ?_
    refine (rwrite_ok B Has h.sim.bmax h.sim.hlen x.pos x.room r2 x.b hxb _ _ H3 hrefb hS3).mono fun w H4 hn4 ⟨k4, u, B', Has', hu, hR, e3, hRW⟩ => ?_
    change w = .tuple [u, .int .i64 (wCnt (needN (hasF Has) x.pos x.b.length) x.pos x.b.length x.room), .int .i64 (wErr (needN (hasF Has) x.pos x.b.length) x.pos x.b.length x.room)] at e3
    subst e3
    have hsim := hsimf B' Has' hRW
    have hR0 := hR
    obtain ⟨ua, uc, ux, ua', uc', ux', rfl, q1, q2, _⟩ := hR
    have k0 := (k4.get (by omega)).trans k0
    have k1 := (k4.get (by omega)).trans k1
    have k2 := (k4.get (by omega)).trans k2
    refine walk (both k0 (both k1 k2)) ?_
    have k5 : Keep H4 ((H4.push (AObj.cells [AV.slice none 0 0 none, AV.slice none 0 0 none] 28 true false)).set H4.next (AObj.cells [AV.slice ua B'.length uc ux, AV.slice ua' Has'.length uc' ux'] 28 true false)) := (Upd.rfl.push _).set _ (by simp) (by omega)
    generalize hH5 : (H4.push (AObj.cells [AV.slice none 0 0 none, AV.slice none 0 0 none] 28 true false)).set H4.next (AObj.cells [AV.slice ua B'.length uc ux, AV.slice ua' Has'.length uc' ux'] 28 true false) = H5 at *
    have g5 : H5.get H4.next = some (AObj.cells [AV.slice ua B'.length uc ux, AV.slice ua' Has'.length uc' ux'] 28 true false) := by subst hH5; simp
    have n5 : H5.next = H4.next + 1 := by subst hH5; simp
    have k0 := (k5.get (by omega)).trans k0
    have k1 := (k5.get (by omega)).trans k1
    have k2 := (k5.get (by omega)).trans k2
    refine Wq.regionM [(1, 0), (2, 0), (3, 0), (4, 0), (5, 0), (6, 0), (7, 0), (8, 0), (9, 0), (11, 0), (12, 0), (13, 0), (14, 0), (15, 0), (16, 0), (17, 0), (0, 2), (20, 0), (10, 0), (18, 0), (19, 0), (21, 0)] (by kernel_rfl) ?_
    refine mwalk (both k0 (both k1 (both k2 g5))) ?_
    refine (rneed_ok B Has x.pos x.b.length r2 (by omega) _ H5 ((hrefb.kept k4).kept k5)).mono fun w H6 hn6 ⟨e6, k6⟩ => ?_
    subst e6
    have k0 := (k6.get (by omega)).trans k0
    have j2 := (k6.get (by omega)).trans k2
    have j5 := (k6.get (by omega)).trans g5
    refine mwalk (both k0 (both k1 (both k2 (both j2 (both g5 j5))))) ?_
    refine walk j2 ?_
    have u3 : Upd (fun b => b = H.next + 2) H4 (H6.set (H.next + 1 + 1) (AObj.cells [AV.slice ua B'.length uc ux, AV.slice ua' Has'.length uc' ux'] 28 true false)) := ((Upd.of k5).then k6).set _ (by omega) (fun _ => rfl)
    have u2 : Upd (fun b => b = H.next + 2) H3 _ := (Upd.of k4).trans u3 fun _ _ h => h
    have hlt2 := h3.lt hw3
    refine ⟨_, l', bl', size', B', Has', rfl, ⟨h3.upd hw3 u2 fun b hb e => ?_, hR0.upd u3 fun b hb e => ?_, hsim, fun b hb hf => ?_⟩, ?_, fun b hb => ?_, fun b hb => ?_⟩
    · rcases hfp b hb with h' | h'
      · have := hpl b h'; omega
      · omega
    · rcases hu b hb with h' | h'
      · have := hv b h'; omega
      · omega
    · rcases hu b hb with h' | h'
      · rcases hfp b hf with h'' | h''
        · exact h.away b h' h''
        · have := hv b h'; omega
      · have := hlt2 b hf; omega
    · exact ((Upd.of (k01.then ka)).trans hup fun _ _ h => h).trans u2 fun b hb e => by omega
    · rcases hfp b hb with h' | h'
      · exact .inl h'
      · exact .inr (by omega)
    · rcases hu b hb with h' | h'
      · exact .inl h'
      · exact .inr (by have := u3.next; omega)
end Go.Abs

/- Chapter 04: a file is as the document's answer. -/
namespace Go.Abs
open Go.Proofs
set_option maxRecDepth 100000
set_option linter.unusedVariables false
set_option linter.unusedSimpArgs false

set_option maxHeartbeats 1000000 in
theorem alike_ok {p r : Nat} {size : Int} {l : List (Int × Nat)} {bl : Nat → List UInt8} {v : AV} {B : List UInt8} {Has : List Bool} (H : Heap) (h : Both H p r l bl size v B Has) :
    Cl Try.prog pr04 15 [.ptr (some (p, 0)), v] H fun w H' => w = .bool true ∧ Keep H H' := by
  refine Cl.wf fun hw => ?_
  have href := h.ref
  obtain ⟨ga, gc, gx, ga', gc', gx', rfl, q1, q2, _⟩ := h.ref
  have hpl := h.rep.lt hw
  have hp := h.rep.p0
  have hr := h.rep.r0
  have hcnt := len_count _ Has l rfl h.rep.once h.sim.dom
  have hsz := h.sim.size
  have hbm := h.sim.bmax
  have hhl := h.sim.hlen
  have hpn := hpl p (.inl rfl)
  have hrn := hpl r (.inr (.inl rfl))
  refine Cl.enter Try.func15 rfl rfl Try.ntmps15 (by simp) ?_
  refine walk none0 ?_
  have kb : Keep H (H.push (AObj.cells [AV.slice ga B.length gc gx, AV.slice ga' Has.length gc' gx'] 28 true false)) := Upd.rfl.push _
  generalize hHb : H.push (AObj.cells [AV.slice ga B.length gc gx, AV.slice ga' Has.length gc' gx'] 28 true false) = Hb at *
  have gb0 : Hb.get H.next = some (.cells [AV.slice ga B.length gc gx, AV.slice ga' Has.length gc' gx'] 28 true false) := by subst hHb; simp
  have nb : Hb.next = H.next + 1 := by subst hHb; simp
  have hpb := (kb.get hpn).trans hp
  have hrb := (kb.get hrn).trans hr
  refine Wq.regionM [(0, 0), (1, 0), (2, 0), (3, 2), (4, 0), (5, 0), (6, 0), (7, 0), (8, 0), (9, 2), (10, 0), (11, 0), (12, 0), (13, 0), (14, 0), (15, 0), (16, 0), (17, 0), (18, 0), (19, 0), (20, 0), (21, 0), (22, 0), (23, 0)] (by kernel_rfl) ?_
  refine mwalk gb0 ?_
  refine (size_some p r size Hb hpb).mono fun w H1 hn1 ⟨e1, e2⟩ => ?_
  subst e1; subst e2
  refine mwalk (both gb0 hsz) ?_
  refine (blocks_some p r size l _ hpb hrb).mono fun w H2 hn2 ⟨e1, e2⟩ => ?_
  subst e1; subst e2
  refine mwalk (both gb0 hsz) ?_
  refine (rblocks_ok B Has (by omega) _ _ (href.kept kb)).mono fun w H3 hn3 ⟨e1, k3⟩ => ?_
  subst e1
  have k03 := kb.then k3
  have gb3 := (k3.get (by omega)).trans gb0
  have hp3 := (k03.get hpn).trans hp
  have hr3 := (k03.get hrn).trans hr
  have hc2 : (l.length : Int) = (Has.count true : Int) := by omega
  refine mwalk (both gb0 (both gb3 (both hsz hc2))) ?_
  have hm1 : (iget (-1) l).isSome = false := by rw [h.sim.dom]; rfl
  refine (has_some p r size (-1) l _ hp3 hr3).mono fun w H4 hn4 ⟨e1, e2⟩ => ?_
  subst e1; subst e2
  refine mwalk (both gb0 (both gb3 (both hsz hm1))) ?_
  have hm2 : (iget (Has.length : Int) l).isSome = false := by
    rw [h.sim.dom]
    unfold hasF
    simp
  refine (has_some p r size Has.length l _ hp3 hr3).mono fun w H5 hn5 ⟨e1, e2⟩ => ?_
  subst e1; subst e2
  refine mwalk (both gb0 (both gb3 (both hsz (both hm1 hm2)))) ?_
  refine walk (both gb3 hm2) ?_
  refine Wq.loop (fun m e H' => ∃ i : Nat, i ≤ Has.length ∧ e 0 = .ptr (some (p, 0)) ∧ e 3 = .ptr (some (H.next, 0)) ∧ e 5 = .int .i64 i ∧ m = Has.length - i ∧ H' = H5) Has.length ?_ ?_
  · exact ⟨0, by omega, by simp, by simp, by simp, by omega, rfl⟩
  · rintro m e H' ⟨i, hi, g0, g3, g5, rfl, rfl⟩
    by_cases hlt : i < Has.length
    · refine walk (both g0 (both g3 (both g5 gb3))) ?_
      obtain ⟨b, o, cs, t, w0, mm, rfl, hb1, hb2, hb3, hb4⟩ := (q2.kept k03).at (by omega)
      have hx := sub_get hb4 (i := i) (by omega)
      have hgi : Has[i]? = some (Has[i]'(by omega)) := List.getElem?_eq_getElem (by omega)
      rw [List.getElem?_map, hgi, Option.map_some] at hx
      have hm3 : (iget (i : Int) l).isSome = Has[i] := by
        rw [h.sim.dom]
        unfold hasF
        simp [List.getD, hgi]
      generalize Has[i] = y at *
      refine Wq.regionM [(0, 0), (1, 0), (2, 0), (3, 0), (4, 2), (5, 0), (6, 0), (7, 2), (8, 0)] (by kernel_rfl) ?_
      refine mwalk (both g0 (both g3 (both g5 gb3))) ?_
      refine (has_some p r size i l _ hp3 hr3).mono fun w H6 hn6 ⟨e1, e2⟩ => ?_
      subst e1; subst e2
      refine mwalk (both g0 (both g3 (both g5 (both gb3 (both hb2 hx))))) ?_
      refine walk (both g0 (both g3 (both g5 (both gb3 hm3)))) ?_
      refine Roundq.normal (Has.length - (i + 1)) (by omega) ⟨i + 1, by omega, by simp [g0], by simp [g3], by simp, rfl, rfl⟩
    · refine walk (both g0 (both g3 (both g5 gb3))) ?_
      exact ⟨rfl, k03⟩
end Go.Abs
