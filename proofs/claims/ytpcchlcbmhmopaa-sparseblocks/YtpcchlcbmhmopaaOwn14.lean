/- Texts on this program, joined. -/
import Derived.Test.YtpcchlcbmhmopaaOwn13
import Derived.Test.YtpcchlcbmhmopaaKit09
import Derived.Test.YtpcchlcbmhmopaaRows
import Derived.WalkKit
import Derived.ProofKit
import Derived.OpenShut
import Derived.ShutString
import Derived.ChangeOld
import Derived.Below

/- Chapter 04: SparseActs and SparseReads, walked. -/
namespace Go.Abs
open Go.Proofs
set_option maxRecDepth 100000
set_option linter.unusedVariables false
set_option linter.unusedSimpArgs false

/-- What holds between acts. -/
structure Held04 (H0 Hs H' : Heap) (ok : Nat → Prop) (p r g : Nat) (l : List (Int × Nat)) (bl : Nat → List UInt8) (size : Int) (gv1 gv2 : AV) (B : List UInt8) (Has : List Bool) : Prop where
  both : Both H' p r l bl size (.agg [gv1, gv2]) B Has
  gc : H'.get g = some (.cells [gv1, gv2] 28 true false)
  upd : Upd (fun b => b = p ∨ b = r ∨ b = g) Hs H'
  fp : ∀ b, fpF p r l b → b = p ∨ b = r ∨ Hs.next ≤ b
  bk : ∀ b, blkOf (.agg [gv1, gv2]) b → Hs.next ≤ b ∧ b < H'.next

theorem Both.kept {H H' : Heap} {p r : Nat} {l : List (Int × Nat)} {bl : Nat → List UInt8} {size : Int} {v : AV} {B : List UInt8} {Has : List Bool} (h : Both H p r l bl size v B Has) (hw : Wf H) (k : Keep H H') : Both H' p r l bl size v B Has :=
  ⟨h.rep.upd hw k fun _ _ => id, h.ref.kept k, h.sim, h.away⟩
theorem Held04.step {H0 Hs H' H1 : Heap} {ok : Nat → Prop} {p r g : Nat} {l l' : List (Int × Nat)} {bl bl' : Nat → List UInt8} {size size' : Int} {gv1 gv2 u1 u2 : AV} {B B' : List UInt8} {Has Has' : List Bool}
    (h : Held04 H0 Hs H' ok p r g l bl size gv1 gv2 B Has) (hw : Wf H1) (b : Both H1 p r l' bl' size' (.agg [u1, u2]) B' Has') (up : Upd (fpF p r l) H' H1) (hf : ∀ b, fpF p r l' b → fpF p r l b ∨ H'.next ≤ b) (hu : ∀ b, blkOf (.agg [u1, u2]) b → blkOf (.agg [gv1, gv2]) b ∨ (H'.next ≤ b ∧ b < H1.next))
    (hgp : g ≠ p ∧ g ≠ r ∧ g < Hs.next) :
    Held04 H0 Hs (H1.set g (.cells [u1, u2] 28 true false)) ok p r g l' bl' size' u1 u2 B' Has' := by
  have hn := h.upd.next
  have hn1 := up.next
  have hfl := b.rep.lt hw
  have u : Upd (fun b => b = g) H1 (H1.set g (.cells [u1, u2] 28 true false)) := Upd.rfl.set _ (by omega) (fun _ => rfl)
  have hfg : ∀ b, fpF p r l' b → b ≠ g := by
    intro b hb e
    subst e
    rcases hf b hb with h' | h'
    · rcases h.fp b h' with h' | h' | h'
      · exact hgp.1 h'
      · exact hgp.2.1 h'
      · omega
    · omega
  refine ⟨⟨b.rep.upd hw u hfg, b.ref.upd u fun q hq e => ?_, b.sim, b.away⟩, by rw [Heap.get_set, if_pos rfl], ?_, fun q hq => ?_, fun q hq => ?_⟩
  · subst e
    rcases hu q hq with h' | h'
    · have := (h.bk q h').1; omega
    · omega
  · refine (h.upd.trans (up.mono (fq := fun b => b = p ∨ b = r ∨ b = g ∨ Hs.next ≤ b) fun q _ hq => ?_) (fun q hq hq2 => ?_)).trans u (fun q _ hq => .inr (.inr hq))
    · rcases h.fp q hq with h' | h' | h'
      · exact .inl h'
      · exact .inr (.inl h')
      · exact .inr (.inr (.inr h'))
    · rcases hq2 with h' | h' | h' | h'
      · exact .inl h'
      · exact .inr (.inl h')
      · exact .inr (.inr h')
      · omega
  · rcases hf q hq with h' | h'
    · exact h.fp q h'
    · exact .inr (.inr (by omega))
  · refine ⟨?_, ?_⟩
    · rcases hu q hq with h' | h'
      · exact (h.bk q h').1
      · omega
    · rcases hu q hq with h' | h'
      · have := (h.bk q h').2; simp; omega
      · simp; omega

set_option maxHeartbeats 2000000 in
theorem sparseActs_main (v : AV) (l : List Act) (hl : l.length ≤ maxLen) (H : Heap) (h : ActsR H (fun b => b < H.next) v l) :
    Cl Try.prog pr04 4 [v] H fun w H' => w = .bool true := by
  refine Cl.wf fun hw => ?_
  refine Cl.enter Try.func4 rfl rfl Try.ntmps4 (by simp) ?_
  refine walk none0 ?_
  refine Cl.enter Try.func7 rfl rfl Try.ntmps7 (by simp) ?_
  refine walk none0 ?_
  have k3 : Keep H ((((H.push (AObj.map [])).push (AObj.cells [AV.map (some H.next), AV.int IntKind.i64 0] 51 true false)).push (AObj.cells [AV.slice none 0 0 none, AV.slice none 0 0 none] 28 true false)).set (H.next + 1 + 1) (AObj.cells [AV.slice none 0 0 none, AV.slice none 0 0 none] 28 true false)) := (((Upd.rfl.push _).push _).push _).set _ (by simp) (by omega)
  generalize hHb : ((((H.push (AObj.map [])).push (AObj.cells [AV.map (some H.next), AV.int IntKind.i64 0] 51 true false)).push (AObj.cells [AV.slice none 0 0 none, AV.slice none 0 0 none] 28 true false)).set (H.next + 1 + 1) (AObj.cells [AV.slice none 0 0 none, AV.slice none 0 0 none] 28 true false)) = Hb at *
  have nb : Hb.next = H.next + 3 := by subst hHb; simp
  have gr : Hb.get H.next = some (.map (imap .i64 (pm ptrTo []))) := by subst hHb; simp (disch := omega) [ineg, imap, pm]
  have gp : Hb.get (H.next + 1) = some (.cells [.map (some H.next), .int .i64 0] 51 true false) := by subst hHb; simp (disch := omega) [ineg]
  have gg : Hb.get (H.next + 2) = some (.cells [AV.slice none 0 0 none, AV.slice none 0 0 none] 28 true false) := by subst hHb; simp (disch := omega) [ineg]
  refine Cl.wfK ((small_ok v l hl Hb (fun b => b < H.next) (fun b hb => by omega) (h.upd k3 fun _ _ => id)).mono fun w Hs hns ⟨ks, hs⟩ hws => ?_)
  have hs := hs.mono (ok' := fun b => b < H.next ∨ (H.next + 3 ≤ b ∧ b < Hs.next)) (fun b hb => by omega)
  have hsm : ∀ (i : Nat) x, ((l.take 25).map smallA)[i]? = some x → x.b.length ≤ 300 := by
    intro i x hx
    simp only [List.getElem?_map, Option.map_eq_some_iff] at hx
    obtain ⟨y, _, rfl⟩ := hx
    simp [smallA]
    omega
  have hL25 : ((l.take 25).map smallA).length ≤ 25 := by simp; omega
  generalize (l.take 25).map smallA = L at *
  have hH0 : Held04 Hb Hs Hs (fun b => b < H.next) (H.next + 1) H.next (H.next + 2) [] (fun _ => []) 0 (.slice none 0 0 none) (.slice none 0 0 none) [] [] := by
    refine ⟨⟨⟨(ks.get (by omega)).trans gp, (ks.get (by omega)).trans gr, trivial, by simp, by simp⟩, ⟨none, 0, none, none, 0, none, rfl, Sl.nil, Sl.nil, fun _ _ _ _ _ e => by cases e⟩, SimA.nil, ?_⟩, (ks.get (by omega)).trans gg, Upd.rfl, ?_, ?_⟩
    · rintro b ⟨s, hs', hb⟩; simp at hs'; subst hs'; cases hb
    · rintro b (h' | h' | ⟨k, h'⟩)
      · exact .inl h'
      · exact .inr (.inl h')
      · simp at h'
    · rintro b ⟨s, hs', hb⟩; simp at hs'; subst hs'; cases hb
  obtain ⟨cs, hc1, hc2, hc3⟩ := hs
  obtain ⟨wa, wc, wx, rfl, hwc, hwx⟩ := hc1.form
  refine walk none0 ?_
  refine Wq.loop (fun m e H' => ∃ (i : Nat) (l' : List (Int × Nat)) (bl' : Nat → List UInt8) (size : Int) (u1 u2 : AV) (B : List UInt8) (Has : List Bool), i ≤ L.length ∧ e 0 = .slice wa L.length wc wx ∧ e 3 = .ptr (some (H.next + 1, 0)) ∧ e 4 = .ptr (some (H.next + 2, 0)) ∧ e 5 = .int .i64 i ∧ m = L.length - i ∧ Wf H' ∧ Held04 Hb Hs H' (fun b => b < H.next) (H.next + 1) H.next (H.next + 2) l' bl' size u1 u2 B Has) L.length ?_ ?_
  · exact ⟨0, [], fun _ => [], 0, .slice none 0 0 none, .slice none 0 0 none, [], [], by omega, by simp, by simp, by simp, by simp, by omega, hws, hH0⟩
  · rintro m e H' ⟨i, l', bl', size, u1, u2, B, Has, hi, g0, g3, g4, g5, rfl, hw', hH⟩
    have hgc := hH.gc
    obtain ⟨ga, gc', gx, ga', gc'', gx', eg, q1, q2, q3⟩ := hH.both.ref
    simp only [AV.agg.injEq, List.cons.injEq, and_true] at eg
    obtain ⟨rfl, rfl⟩ := eg
    by_cases hlt : i < L.length
    · obtain ⟨x, hx⟩ : ∃ x, L[i]? = some x := ⟨L[i], by simp [hlt]⟩
      have hA := (hc3 i x hx).upd hH.upd (fun b hb hf => by have := hns; omega)
      have hS := hc1.upd hH.upd (fun b hb _ hf => by have := hc2 b hb; omega)
      obtain ⟨b, o, c, t, w0, mm, rfl, hb1, hb2, hb3, hb4⟩ := hS.at (by omega)
      have hs4 := sub_take hb4 (i := i * 4) (k := 4) (by omega)
      have hfit : o + i * 4 + 4 ≤ c.length := by omega
      refine walk (both g0 (both g3 (both g4 g5))) ?_
      refine Wq.regionD [0, 1, 2, 3, 4, 5, 6, 7, 8, 10, 11, 9, 12] (by kernel_rfl) ?_
      refine walk (both g0 (both g3 (both g4 (both g5 (both hgc (both hb2 (both hs4 hfit))))))) ?_
      refine Cl.wfK ((does_ok x _ _ H' (fun b hb => (hH.bk b hb).2) hH.both hA (hsm i x hx) (fun b hb hf => by rcases hH.fp b hf with h' | h' | h' <;> omega)).mono fun w H1 hn1 ⟨u, l1, bl1, size1, B1, Has1, e1, hB1, hup, hfp1, hu1⟩ hw1 => ?_)
      subst e1
      have hgc1 : H1.get (H.next + 2) = _ := (hup.keep (H.next + 2) (hw'.lt hgc) (fun hf => by have := hns; rcases hH.fp _ hf with h' | h' | h' <;> omega)).trans hgc
      obtain ⟨za, zc, zx, za', zc', zx', rfl, z1, z2, z3⟩ := hB1.ref
      have hgn1 : H.next + 2 < H1.next := hw1.lt hgc1
      refine walk (both g3 (both g4 hgc1)) ?_
      have kx : Keep H1 ((H1.push (AObj.cells [AV.slice none 0 0 none, AV.slice none 0 0 none] 28 true false)).set H1.next (AObj.cells [AV.slice za B1.length zc zx, AV.slice za' Has1.length zc' zx'] 28 true false)) := (Upd.rfl.push _).set _ (by simp) (by omega)
      generalize hHx : (H1.push (AObj.cells [AV.slice none 0 0 none, AV.slice none 0 0 none] 28 true false)).set H1.next (AObj.cells [AV.slice za B1.length zc zx, AV.slice za' Has1.length zc' zx'] 28 true false) = Hx at *
      have gx1 : Hx.get H1.next = some (AObj.cells [AV.slice za B1.length zc zx, AV.slice za' Has1.length zc' zx'] 28 true false) := by subst hHx; simp
      have nx : Hx.next = H1.next + 1 := by subst hHx; simp
      have hBx := hB1.kept hw1 kx
      refine Cl.wfK ((alike_ok Hx hBx).mono fun w H2 hn2 ⟨e2, k2⟩ hw2 => ?_)
      subst e2
      have g2 := (k2.get (by omega)).trans ((kx.get hgn1).trans hgc1)
      have gx2 := (k2.get (by omega)).trans gx1
      refine walk (both g0 (both g3 (both g4 (both g5 (both gx2 g2))))) ?_
      have hst := hH.step (H1 := H2) hw2 (hBx.kept (kx.wf hw1) k2) (hup.then (kx.then k2)) hfp1 (fun b hb => by rcases hu1 b hb with h' | h'; (· exact .inl h'); (· right; omega)) (by omega)
      refine Roundq.normal (L.length - (i + 1)) (by omega) ⟨i + 1, l1, bl1, size1, _, _, B1, Has1, by omega, by simp [g0], by simp [g3], by simp [g4], by simp, rfl, set_wf (by omega) _ hw2, hst⟩
    · have : i = L.length := by omega
      subst this
      refine walk (both g0 (both g3 (both g4 g5))) ?_
      refine Wq.regionM [(0, 0), (1, 0), (2, 0), (3, 0), (4, 0), (5, 0), (6, 0), (7, 2), (8, 2), (9, 0), (10, 0), (11, 0), (12, 0), (13, 0)] (by kernel_rfl) ?_
      refine mwalk (both g0 (both g3 (both g4 (both g5 hgc)))) ?_
      have hsz := hH.both.sim.size
      have hbm := hH.both.sim.bmax
      have hread : Cl Try.prog pr04 10 [.ptr (some (H.next + 1, 0)), .int .i64 0, .int .i64 B.length] H' fun w H1 => Keep H' H1 ∧ Sl H1 1 w B.length (cellsOfBytes B) ∧ LiveS H1 w := by
        by_cases h0 : B.length = 0
        · refine (read_no _ _ size l' bl' 0 B.length H' hH.both.rep (by omega)).mono fun w H1 _ ⟨e1, e2⟩ => ?_
          subst e1; subst e2
          have : B = [] := List.eq_nil_of_length_eq_zero h0
          subst this
          exact ⟨Upd.rfl, Sl.nil, fun _ _ _ _ _ e => by cases e⟩
        · refine (read_yes _ _ size l' bl' 0 B.length H' hH.both.rep (by omega) (by omega) (by omega) (by omega)).mono fun w H1 _ hf => ?_
          have e1 : (min (B.length : Int) (size - 0)).toNat = B.length := by omega
          have e2 : rdL (cell l' bl') 0 B.length = B := by
            apply List.ext_getElem?
            intro i
            by_cases hi : i < B.length
            · have e3 := hH.both.sim.cel i
              simp only [rdL, List.getElem?_map, List.getElem?_range hi, Option.map_some, Int.zero_add]
              rw [e3, List.getElem?_eq_getElem hi]
              simp [List.getD, List.getElem?_eq_getElem hi]
            · rw [List.getElem?_eq_none (by rw [rdL_len]; omega), List.getElem?_eq_none (by omega)]
          rw [e1, e2] at hf
          exact ⟨hf.keep, hf.own.sl, hf.own.live⟩
      refine hread.mono fun w H1 hn1 ⟨k1, s1, lv1⟩ => ?_
      have hcv := conv_sl (P := Try.prog) (s := 25) (t := 9) (by simp) (by simp) s1 lv1
      have hgc1 := (k1.get (hw'.lt hgc)).trans hgc
      have q1' := q1.kept k1
      have q3' := q3.kept k1
      have hcv2 := conv_sl (P := Try.prog) (s := 25) (t := 9) (by simp) (by simp) q1' q3'
      have hgcl := hw'.lt hgc
      refine mwalk (both g0 (both g3 (both g4 (both g5 (both hgc (both hgc1 (both hcv hcv2))))))) ?_
      refine Dq.conv rfl rfl met_none (by simp; exact ⟨rfl, rfl, rfl, rfl⟩) (fun b o e => ?_) (by simp [hcv2]; exact ⟨rfl, rfl⟩) ?_
      · subst e
        obtain ⟨y1, ys, yt, yw, ym, y2, y3⟩ := q3 _ _ _ _ _ rfl
        have y4 := (k1.get y1).trans y2
        exact ⟨_, y4, by simp [y4, y2]⟩
      · refine mwalk (both g0 (both g3 (both g4 g5))) ?_
        refine Cl.prim (v := .bool true) (H' := H1) rfl rfl ?_
        refine mwalk (both g0 (both g3 (both g4 g5))) ?_
        refine walk none0 ?_
        rfl

theorem rdL_rdB {l : List (Int × Nat)} {bl : Nat → List UInt8} {size : Int} {B : List UInt8} {Has : List Bool} (h : SimA l bl size B Has) (off n : Int) (ho : 0 ≤ off) (hn : 0 ≤ n) (hs : off < size) : rdL (cell l bl) off (min n (size - off)).toNat = rdB B off n := by
  have hsz := h.size
  unfold rdB
  rw [if_neg (by omega)]
  apply List.ext_getElem?
  intro i
  by_cases hi : i < (min n (size - off)).toNat
  · have e3 := h.cel (off + i).toNat
    rw [show (((off + i).toNat : Nat) : Int) = off + i from by omega] at e3
    simp only [rdL, List.getElem?_map, List.getElem?_range hi, Option.map_some, List.getElem?_take, List.getElem?_drop]
    rw [if_pos (by omega), e3, show off.toNat + i = (off + i).toNat from by omega, List.getElem?_eq_getElem (by omega)]
    simp [List.getD, List.getElem?_eq_getElem (by omega : (off + i).toNat < B.length)]
  · rw [List.getElem?_eq_none (by rw [rdL_len]; omega), List.getElem?_eq_none (by simp; omega)]

set_option maxHeartbeats 2000000 in
theorem sparseReads_main (v : AV) (l : List Act) (off n : Int) (hof : i64 off) (hin : i64 n) (hl : l.length ≤ maxLen) (H : Heap) (h : ActsR H (fun b => b < H.next) v l) :
    Cl Try.prog pr04 3 [v, .int .i64 off, .int .i64 n] H fun w H' => w = .bool true := by
  refine Cl.wf fun hw => ?_
  unfold i64 at hof hin
  refine Cl.enter Try.func3 rfl rfl Try.ntmps3 (by simp) ?_
  refine walk none0 ?_
  refine Cl.enter Try.func7 rfl rfl Try.ntmps7 (by simp) ?_
  refine walk none0 ?_
  have k3 : Keep H ((((H.push (AObj.map [])).push (AObj.cells [AV.map (some H.next), AV.int IntKind.i64 0] 51 true false)).push (AObj.cells [AV.slice none 0 0 none, AV.slice none 0 0 none] 28 true false)).set (H.next + 1 + 1) (AObj.cells [AV.slice none 0 0 none, AV.slice none 0 0 none] 28 true false)) := (((Upd.rfl.push _).push _).push _).set _ (by simp) (by omega)
  generalize hHb : ((((H.push (AObj.map [])).push (AObj.cells [AV.map (some H.next), AV.int IntKind.i64 0] 51 true false)).push (AObj.cells [AV.slice none 0 0 none, AV.slice none 0 0 none] 28 true false)).set (H.next + 1 + 1) (AObj.cells [AV.slice none 0 0 none, AV.slice none 0 0 none] 28 true false)) = Hb at *
  have nb : Hb.next = H.next + 3 := by subst hHb; simp
  have gr : Hb.get H.next = some (.map (imap .i64 (pm ptrTo []))) := by subst hHb; simp (disch := omega) [ineg, imap, pm]
  have gp : Hb.get (H.next + 1) = some (.cells [.map (some H.next), .int .i64 0] 51 true false) := by subst hHb; simp (disch := omega) [ineg]
  have gg : Hb.get (H.next + 2) = some (.cells [AV.slice none 0 0 none, AV.slice none 0 0 none] 28 true false) := by subst hHb; simp (disch := omega) [ineg]
  refine Cl.wfK ((small_ok v l hl Hb (fun b => b < H.next) (fun b hb => by omega) (h.upd k3 fun _ _ => id)).mono fun w Hs hns ⟨ks, hs⟩ hws => ?_)
  have hs := hs.mono (ok' := fun b => b < H.next ∨ (H.next + 3 ≤ b ∧ b < Hs.next)) (fun b hb => by omega)
  have hsm : ∀ (i : Nat) x, ((l.take 25).map smallA)[i]? = some x → x.b.length ≤ 300 := by
    intro i x hx
    simp only [List.getElem?_map, Option.map_eq_some_iff] at hx
    obtain ⟨y, _, rfl⟩ := hx
    simp [smallA]
    omega
  have hL25 : ((l.take 25).map smallA).length ≤ 25 := by simp; omega
  generalize (l.take 25).map smallA = L at *
  have hH0 : Held04 Hb Hs Hs (fun b => b < H.next) (H.next + 1) H.next (H.next + 2) [] (fun _ => []) 0 (.slice none 0 0 none) (.slice none 0 0 none) [] [] := by
    refine ⟨⟨⟨(ks.get (by omega)).trans gp, (ks.get (by omega)).trans gr, trivial, by simp, by simp⟩, ⟨none, 0, none, none, 0, none, rfl, Sl.nil, Sl.nil, fun _ _ _ _ _ e => by cases e⟩, SimA.nil, ?_⟩, (ks.get (by omega)).trans gg, Upd.rfl, ?_, ?_⟩
    · rintro b ⟨s, hs', hb⟩; simp at hs'; subst hs'; cases hb
    · rintro b (h' | h' | ⟨k, h'⟩)
      · exact .inl h'
      · exact .inr (.inl h')
      · simp at h'
    · rintro b ⟨s, hs', hb⟩; simp at hs'; subst hs'; cases hb
  obtain ⟨cs, hc1, hc2, hc3⟩ := hs
  obtain ⟨wa, wc, wx, rfl, hwc, hwx⟩ := hc1.form
  refine walk none0 ?_
  refine Wq.loop (fun m e H' => ∃ (i : Nat) (l' : List (Int × Nat)) (bl' : Nat → List UInt8) (size : Int) (u1 u2 : AV) (B : List UInt8) (Has : List Bool), i ≤ L.length ∧ e 0 = .slice wa L.length wc wx ∧ e 1 = .int .i64 off ∧ e 2 = .int .i64 n ∧ e 7 = .ptr (some (H.next + 1, 0)) ∧ e 8 = .ptr (some (H.next + 2, 0)) ∧ e 9 = .int .i64 i ∧ m = L.length - i ∧ Wf H' ∧ Held04 Hb Hs H' (fun b => b < H.next) (H.next + 1) H.next (H.next + 2) l' bl' size u1 u2 B Has) L.length ?_ ?_
  · exact ⟨0, [], fun _ => [], 0, .slice none 0 0 none, .slice none 0 0 none, [], [], by omega, by simp, by simp, by simp, by simp, by simp, by simp, by omega, hws, hH0⟩
  · rintro m e H' ⟨i, l', bl', size, u1, u2, B, Has, hi, g0, g1, g2, g3, g4, g5, rfl, hw', hH⟩
    have hgc := hH.gc
    obtain ⟨ga, gc', gx, ga', gc'', gx', eg, q1, q2, q3⟩ := hH.both.ref
    simp only [AV.agg.injEq, List.cons.injEq, and_true] at eg
    obtain ⟨rfl, rfl⟩ := eg
    by_cases hlt : i < L.length
    · obtain ⟨x, hx⟩ : ∃ x, L[i]? = some x := ⟨L[i], by simp [hlt]⟩
      have hA := (hc3 i x hx).upd hH.upd (fun b hb hf => by have := hns; omega)
      have hS := hc1.upd hH.upd (fun b hb _ hf => by have := hc2 b hb; omega)
      obtain ⟨b, o, c, t, w0, mm, rfl, hb1, hb2, hb3, hb4⟩ := hS.at (by omega)
      have hs4 := sub_take hb4 (i := i * 4) (k := 4) (by omega)
      have hfit : o + i * 4 + 4 ≤ c.length := by omega
      refine walk (both g0 (both g1 (both g2 (both g3 (both g4 g5))))) ?_
      refine Wq.regionD [0, 1, 2, 3, 4, 5, 6, 7, 8, 10, 11, 9, 12] (by kernel_rfl) ?_
      refine walk (both g0 (both g1 (both g2 (both g3 (both g4 (both g5 (both hgc (both hb2 (both hs4 hfit))))))))) ?_
      refine Cl.wfK ((does_ok x _ _ H' (fun b hb => (hH.bk b hb).2) hH.both hA (hsm i x hx) (fun b hb hf => by rcases hH.fp b hf with h' | h' | h' <;> omega)).mono fun w H1 hn1 ⟨u, l1, bl1, size1, B1, Has1, e1, hB1, hup, hfp1, hu1⟩ hw1 => ?_)
      subst e1
      have hgc1 : H1.get (H.next + 2) = _ := (hup.keep (H.next + 2) (hw'.lt hgc) (fun hf => by have := hns; rcases hH.fp _ hf with h' | h' | h' <;> omega)).trans hgc
      obtain ⟨za, zc, zx, za', zc', zx', rfl, z1, z2, z3⟩ := hB1.ref
      have hgn1 : H.next + 2 < H1.next := hw1.lt hgc1
      refine walk (both g0 (both g1 (both g2 (both g3 (both g4 (both g5 hgc1)))))) ?_
      have kx : Keep H1 ((H1.push (AObj.cells [AV.slice none 0 0 none, AV.slice none 0 0 none] 28 true false)).set H1.next (AObj.cells [AV.slice za B1.length zc zx, AV.slice za' Has1.length zc' zx'] 28 true false)) := (Upd.rfl.push _).set _ (by simp) (by omega)
      have hst := hH.step (H1 := (H1.push (AObj.cells [AV.slice none 0 0 none, AV.slice none 0 0 none] 28 true false)).set H1.next (AObj.cells [AV.slice za B1.length zc zx, AV.slice za' Has1.length zc' zx'] 28 true false)) (kx.wf hw1) (hB1.kept hw1 kx) (hup.then kx) hfp1 (fun b hb => by rcases hu1 b hb with h' | h'; (· exact .inl h'); (· right; simp; omega)) (by omega)
      refine Roundq.normal (L.length - (i + 1)) (by omega) ⟨i + 1, l1, bl1, size1, _, _, B1, Has1, by omega, by simp [g0], by simp [g1], by simp [g2], by simp [g3], by simp [g4], by simp, rfl, set_wf (by simp; omega) _ (kx.wf hw1), hst⟩
    · have : i = L.length := by omega
      subst this
      refine walk (both g0 (both g1 (both g2 (both g3 (both g4 g5))))) ?_
      refine Wq.regionM [(0, 0), (1, 0), (2, 0), (3, 0), (5, 2), (6, 0), (7, 0), (8, 0), (4, 2), (9, 0), (10, 0), (11, 0), (12, 0), (13, 0), (14, 0), (15, 0), (16, 2), (17, 0), (18, 0), (19, 0), (20, 0), (21, 0), (22, 0), (23, 0), (24, 0), (25, 0)] (by kernel_rfl) ?_
      refine mwalk (both g0 (both g1 (both g2 (both g3 (both g4 (both g5 hgc)))))) ?_
      have hsz := hH.both.sim.size
      have hbm := hH.both.sim.bmax
      have hread : Cl Try.prog pr04 10 [.ptr (some (H.next + 1, 0)), .int .i64 off, .int .i64 n] H' fun w H1 => Keep H' H1 ∧ OwnSl H1 5 1 w (rdB B off n).length (cellsOfBytes (rdB B off n)) ∧ ∀ b, slBlock w = some b → H'.next ≤ b := by
        by_cases h0 : off < 0 ∨ n < 0 ∨ size ≤ off
        · refine (read_no _ _ size l' bl' off n H' hH.both.rep (by omega)).mono fun w H1 _ ⟨e1, e2⟩ => ?_
          subst e1; subst e2
          have : rdB B off n = [] := by
            unfold rdB
            by_cases c : off < 0
            · rw [if_pos c]
            · rw [if_neg c]
              by_cases c2 : n < 0
              · rw [show n.toNat = 0 from by omega, List.take_zero]
              · rw [List.drop_eq_nil_of_le (by omega), List.take_nil]
          rw [this]
          exact ⟨Upd.rfl, OwnSl.nil, by simp [slBlock]⟩
        · refine (read_yes _ _ size l' bl' off n H' hH.both.rep (by omega) (by omega) (by omega) (by omega)).mono fun w H1 _ hf => ?_
          have e2 := rdL_rdB hH.both.sim off n (by omega) (by omega) (by omega)
          have e1 : (min n (size - off)).toNat = (rdB B off n).length := by rw [← e2, rdL_len]
          rw [e2, e1] at hf
          exact ⟨hf.keep, hf.own, hf.new⟩
      refine hread.mono fun w H1 hn1 ⟨k1, s1, nw1⟩ => ?_
      have hgcl := hw'.lt hgc
      have hgc1 := (k1.get hgcl).trans hgc
      refine mwalk (both g0 (both g1 (both g2 (both g3 (both g4 (both g5 (both hgc hgc1))))))) ?_
      refine (rread_ok B Has hbm off n hof hin _ H1 (hH.both.ref.kept k1)).mono fun w2 H2 hn2 hf2 => ?_
      have hcv := conv_sl (P := Try.prog) (s := 25) (t := 9) (by simp) (by simp) (s1.kept hf2.keep).sl (s1.kept hf2.keep).live
      have hcv2 := conv_sl (P := Try.prog) (s := 25) (t := 9) (by simp) (by simp) hf2.own.sl hf2.own.live
      have hgc2 := (hf2.keep.get (by omega)).trans hgc1
      refine mwalk (both g0 (both g1 (both g2 (both g3 (both g4 (both g5 (both hgc (both hgc1 hcv2)))))))) ?_
      obtain ⟨ra, rx, rfl, _⟩ := s1.form
      refine Dq.conv rfl rfl met_none (by simp; exact ⟨rfl, rfl, rfl, rfl⟩) (fun b o e => ?_) (by simp [hcv]; exact ⟨rfl, rfl⟩) ?_
      · subst e
        obtain ⟨y1, ys, yt, yw, ym, y2, y3⟩ := s1.live _ _ _ _ _ rfl
        have y4 := (hf2.keep.get y1).trans y2
        exact ⟨_, y4, by simp [y4, y2]⟩
      · refine mwalk (both g0 (both g1 (both g2 (both g3 (both g4 (both g5 (both hgc (both hgc1 hcv2)))))))) ?_
        have k12 := k1.then hf2.keep
        have hrep2 := hH.both.rep.upd hw' k12 fun _ _ => id
        refine (need_ok _ _ size l' off n hin hof H2 hrep2.p0 hrep2.r0).mono fun w3 H3 hn3 ⟨e3, k3⟩ => ?_
        subst e3
        rw [hH.both.sim.need]
        have hgc3 := (k3.get (by omega)).trans hgc2
        refine mwalk (both g0 (both g1 (both g2 (both g3 (both g4 (both g5 (both hgc (both hgc1 (both hgc2 hgc3))))))))) ?_
        refine (rneed_ok B Has off n hof hin _ H3 (hH.both.ref.kept (k12.then k3))).mono fun w4 H4 hn4 ⟨e4, k4⟩ => ?_
        subst e4
        have hgc4 := (k4.get (by omega)).trans hgc3
        refine mwalk (both g0 (both g1 (both g2 (both g3 (both g4 (both g5 (both hgc (both hgc1 (both hgc2 (both hgc3 hgc4)))))))))) ?_
        refine Cl.prim (v := .bool true) (H' := H4) rfl rfl ?_
        refine mwalk (both g0 (both g1 (both g2 (both g3 (both g4 g5))))) ?_
        refine walk none0 ?_
        rfl
end Go.Abs

/- Chapter 04: SparseBlocks, walked. -/
namespace Go.Abs
open Go.Proofs
set_option maxRecDepth 100000
set_option linter.unusedVariables false
set_option linter.unusedSimpArgs false

theorem rwrote_ex (B : List UInt8) (Has : List Bool) (hH : Has.length * 64 < B.length + 64) (off : Int) (b : List UInt8) (ho : 0 ≤ off) (h0 : 0 < b.length) : ∃ B' Has', RWrote B Has off b B' Has' := by
  refine ⟨(List.range (max (B.length : Int) (off + b.length)).toNat).map fun (q : Nat) => if off ≤ (q : Int) ∧ (q : Int) < off + b.length then b.getD ((q : Int) - off).toNat 0 else B.getD q 0,
    (List.range ((max (B.length : Int) (off + b.length) + 63) / 64).toNat).map fun (k : Nat) => hasF Has k || (decide (off / 64 ≤ k) && decide (64 * (k : Int) < off + b.length)), ?_, ?_, ?_, ?_⟩
  · simp; omega
  · intro q
    by_cases hq : q < (max (B.length : Int) (off + b.length)).toNat
    · simp only [List.getD, List.getElem?_map, List.getElem?_range hq, Option.map_some, Option.getD_some]
    · have e1 : ¬ (off ≤ (q : Int) ∧ (q : Int) < off + b.length) := by omega
      rw [if_neg e1]
      simp [List.getD, List.getElem?_eq_none (by simp; omega : (List.range (max (B.length : Int) (off + b.length)).toNat).length ≤ q), List.getElem?_eq_none (by omega : B.length ≤ q)]
  · simp; omega
  · intro k
    by_cases hk : 0 ≤ k
    · obtain ⟨K, rfl⟩ := Int.eq_ofNat_of_zero_le hk
      by_cases hq : K < ((max (B.length : Int) (off + b.length) + 63) / 64).toNat
      · have e : hasF ((List.range ((max (B.length : Int) (off + b.length) + 63) / 64).toNat).map fun (k : Nat) => hasF Has k || (decide (off / 64 ≤ k) && decide (64 * (k : Int) < off + b.length))) (K : Int) = (hasF Has K || (decide (off / 64 ≤ (K : Int)) && decide (64 * (K : Int) < off + b.length))) := by
          conv => lhs; unfold hasF
          simp only [Int.toNat_natCast, List.getD, List.getElem?_map, List.getElem?_range hq, Option.map_some, Option.getD_some]
          simp only [hasF, List.getD, Int.toNat_natCast]
          simp
        rw [e]
      · have e1 : hasF Has (K : Int) = false := by
          cases hh : hasF Has (K : Int) with
          | false => rfl
          | true => have := hasF_lt hh; omega
        have e2 : decide (64 * (K : Int) < off + b.length) = false := by simp; omega
        rw [e1, e2]
        unfold hasF
        simp only [Int.toNat_natCast, List.getD]
        rw [List.getElem?_eq_none (by simp; omega)]
        simp
    · have e2 : decide (off / 64 ≤ k) = false := by simp; omega
      rw [e2]
      unfold hasF
      simp [hk]

structure HeldP (Hs H' : Heap) (p r : Nat) (l : List (Int × Nat)) (bl : Nat → List UInt8) (size : Int) (B : List UInt8) (Has : List Bool) : Prop where
  rep : FileR H' p r l bl size
  sim : SimA l bl size B Has
  upd : Upd (fun b => b = p ∨ b = r) Hs H'
  fp : ∀ b, fpF p r l b → b = p ∨ b = r ∨ Hs.next ≤ b
theorem HeldP.step {Hs H' H1 : Heap} {p r : Nat} {l l' : List (Int × Nat)} {bl bl' : Nat → List UInt8} {size size' : Int} {B B' : List UInt8} {Has Has' : List Bool}
    (h : HeldP Hs H' p r l bl size B Has) (h3 : FileR H1 p r l' bl' size') (hs : SimA l' bl' size' B' Has') (up : Upd (fpF p r l) H' H1) (hf : ∀ b, fpF p r l' b → fpF p r l b ∨ H'.next ≤ b) : HeldP Hs H1 p r l' bl' size' B' Has' := by
  have hn := h.upd.next
  refine ⟨h3, hs, h.upd.trans (up.mono (fq := fun b => b = p ∨ b = r ∨ Hs.next ≤ b) fun q _ hq => h.fp q hq) (fun q hq hq2 => ?_), fun q hq => ?_⟩
  · rcases hq2 with h' | h' | h'
    · exact .inl h'
    · exact .inr h'
    · omega
  · rcases hf q hq with h' | h'
    · exact h.fp q h'
    · exact .inr (.inr (by omega))

theorem HeldP.keep {Hs H' H1 : Heap} {p r : Nat} {l : List (Int × Nat)} {bl : Nat → List UInt8} {size : Int} {B : List UInt8} {Has : List Bool}
    (h : HeldP Hs H' p r l bl size B Has) (hw : Wf H') (k : Keep H' H1) : HeldP Hs H1 p r l bl size B Has :=
  ⟨h.rep.upd hw k fun _ _ => id, h.sim, h.upd.then k, h.fp⟩

theorem wErr_cnt (need off n room : Int) : wErr need off n room = 0 ∨ wCnt need off n room = 0 := by
  unfold wErr wCnt
  by_cases c : off < 0
  · right; rw [if_pos (.inl c)]
  · by_cases c2 : off > 65536 ∨ n > 65536 - off
    · right; rw [if_pos (by omega)]
    · by_cases c3 : need > room
      · right; rw [if_pos (by omega)]
      · left; rw [if_neg c, if_neg c2, if_neg c3]

set_option maxHeartbeats 2000000 in
theorem sparseBlocks_main (v : AV) (l : List Act) (hl : l.length ≤ maxLen) (H : Heap) (h : ActsR H (fun b => b < H.next) v l) :
    Cl Try.prog pr04 5 [v] H fun w H' => w = .bool true := by
  refine Cl.wf fun hw => ?_
  refine Cl.enter Try.func5 rfl rfl Try.ntmps5 (by simp) ?_
  refine walk none0 ?_
  refine Cl.enter Try.func7 rfl rfl Try.ntmps7 (by simp) ?_
  refine walk none0 ?_
  have k3 : Keep H ((H.push (AObj.map [])).push (AObj.cells [AV.map (some H.next), AV.int IntKind.i64 0] 51 true false)) := (Upd.rfl.push _).push _
  generalize hHb : ((H.push (AObj.map [])).push (AObj.cells [AV.map (some H.next), AV.int IntKind.i64 0] 51 true false)) = Hb at *
  have nb : Hb.next = H.next + 2 := by subst hHb; simp
  have gr : Hb.get H.next = some (.map (imap .i64 (pm ptrTo []))) := by subst hHb; simp (disch := omega) [ineg, imap, pm]
  have gp : Hb.get (H.next + 1) = some (.cells [.map (some H.next), .int .i64 0] 51 true false) := by subst hHb; simp (disch := omega) [ineg]
  refine Cl.wfK ((small_ok v l hl Hb (fun b => b < H.next) (fun b hb => by omega) (h.upd k3 fun _ _ => id)).mono fun w Hs hns ⟨ks, hs⟩ hws => ?_)
  have hs := hs.mono (ok' := fun b => b < H.next ∨ (H.next + 2 ≤ b ∧ b < Hs.next)) (fun b hb => by omega)
  have hsm : ∀ (i : Nat) x, ((l.take 25).map smallA)[i]? = some x → x.b.length ≤ 300 := by
    intro i x hx
    simp only [List.getElem?_map, Option.map_eq_some_iff] at hx
    obtain ⟨y, _, rfl⟩ := hx
    simp [smallA]
    omega
  have hL25 : ((l.take 25).map smallA).length ≤ 25 := by simp; omega
  generalize (l.take 25).map smallA = L at *
  have hH0 : HeldP Hs Hs (H.next + 1) H.next [] (fun _ => []) 0 [] [] := by
    refine ⟨⟨(ks.get (by omega)).trans gp, (ks.get (by omega)).trans gr, trivial, by simp, by simp⟩, SimA.nil, Upd.rfl, ?_⟩
    rintro b (h' | h' | ⟨k, h'⟩)
    · exact .inl h'
    · exact .inr (.inl h')
    · simp at h'
  obtain ⟨cs, hc1, hc2, hc3⟩ := hs
  obtain ⟨wa, wc, wx, rfl, hwc, hwx⟩ := hc1.form
  refine walk none0 ?_
  refine Wq.loop (fun m e H' => ∃ (i : Nat) (l' : List (Int × Nat)) (bl' : Nat → List UInt8) (size : Int) (B : List UInt8) (Has : List Bool), i ≤ L.length ∧ e 0 = .slice wa L.length wc wx ∧ e 3 = .ptr (some (H.next + 1, 0)) ∧ e 4 = .int .i64 l'.length ∧ e 5 = .int .i64 i ∧ m = L.length - i ∧ Wf H' ∧ HeldP Hs H' (H.next + 1) H.next l' bl' size B Has) L.length ?_ ?_
  · exact ⟨0, [], fun _ => [], 0, [], [], by omega, by simp, by simp, by simp, by simp, by omega, hws, hH0⟩
  · rintro m e H' ⟨i, l', bl', size, B, Has, hi, g0, g3, g4, g5, rfl, hw', hH⟩
    have hcl := len_count _ Has l' rfl hH.rep.once hH.sim.dom
    have hcl2 : Has.count true ≤ Has.length := List.count_le_length
    have hsh := hH.sim.hlen
    have hsb := hH.sim.bmax
    by_cases hlt : i < L.length
    · obtain ⟨x, hx⟩ : ∃ x, L[i]? = some x := ⟨L[i], by simp [hlt]⟩
      have hA := (hc3 i x hx).upd hH.upd (fun b hb hf => by have := hns; omega)
      have hS := hc1.upd hH.upd (fun b hb _ hf => by have := hc2 b hb; omega)
      obtain ⟨b, o, c, t, w0, mm, rfl, hb1, hb2, hb3, hb4⟩ := hS.at (by omega)
      have hs4 := sub_take hb4 (i := i * 4) (k := 4) (by omega)
      obtain ⟨vb, hce, hSb, hvb, r1, r2, r3, r4⟩ := hA
      rw [hce] at hs4
      have hfit : o + i * 4 + 4 ≤ c.length := by omega
      have x0 : c[o + i * 4]? = some (.int .i64 x.kind) := by have := congrArg (fun l => l[0]?) hs4; simpa [List.getElem?_take, List.getElem?_drop] using this
      have x1 : c[o + i * 4 + 1]? = some (.int .i64 x.pos) := by have := congrArg (fun l => l[1]?) hs4; simpa [List.getElem?_take, List.getElem?_drop, Nat.add_assoc] using this
      have x2 : c[o + i * 4 + 2]? = some vb := by have := congrArg (fun l => l[2]?) hs4; simpa [List.getElem?_take, List.getElem?_drop, Nat.add_assoc] using this
      have x3 : c[o + i * 4 + 3]? = some (.int .i64 x.room) := by have := congrArg (fun l => l[3]?) hs4; simpa [List.getElem?_take, List.getElem?_drop, Nat.add_assoc] using this
      have hxb := hsm i x hx
      by_cases hk : x.kind = 1
      · refine walk (both g0 (both g3 (both g4 (both g5 (both hb2 (both x0 (both x1 hk))))))) ?_
        refine Cl.wfK ((trunc_all x.pos r2 H' hH.rep hH.sim).mono fun w H1 hn1 ⟨e1, l1, bl1, size1, h3, hs1, hup, hfp⟩ hw1 => ?_)
        subst e1
        have hcl1 := len_count _ _ l1 rfl h3.once hs1.dom
        have hz : (if x.pos < 0 then (22 : Int) else if x.pos > 65536 then 27 else 0) = 0 ∨ (if x.pos < 0 ∨ x.pos > 65536 then (0 : Int) else ↑(List.count true Has) - ↑(List.count true (cutH Has x.pos.toNat))) = 0 := by
          by_cases c : x.pos < 0 ∨ x.pos > 65536
          · right; rw [if_pos c]
          · left; rw [if_neg (by omega), if_neg (by omega)]
        have hm : (l'.length : Int) - (if x.pos < 0 ∨ x.pos > 65536 then (0 : Int) else ↑(List.count true Has) - ↑(List.count true (cutH Has x.pos.toNat))) = l1.length := by
          by_cases c : x.pos < 0 ∨ x.pos > 65536
          · simp only [if_pos c] at hcl1 ⊢; omega
          · simp only [if_neg c] at hcl1 ⊢; omega
        have hb1 := hs1.bmax
        have hl1 := hs1.hlen
        generalize (if x.pos < 0 ∨ x.pos > 65536 then B else cutB B x.pos.toNat) = B1 at *
        generalize (if x.pos < 0 ∨ x.pos > 65536 then Has else cutH Has x.pos.toNat) = Has1 at *
        generalize (if x.pos < 0 ∨ x.pos > 65536 then (0 : Int) else ↑(List.count true Has) - ↑(List.count true (cutH Has x.pos.toNat))) = cnt at *
        generalize (if x.pos < 0 then (22 : Int) else if x.pos > 65536 then 27 else 0) = ern at *
        have hcl3 : Has1.count true ≤ Has1.length := List.count_le_length
        have hH1 := hH.step h3 hs1 hup (fun b hb => .inl (hfp b hb))
        rcases hz with hz | hz
        · subst hz
          refine walk (both g0 (both g3 (both g4 (both g5 hm)))) ?_
          refine Roundq.normal _ ?_ ⟨i + 1, l1, bl1, size1, B1, Has1, by omega, by simp [g0], by simp [g3], by simp, by simp, rfl, hw1, hH1⟩; omega
        · subst hz
          by_cases he : ern = 0
          · refine walk (both g0 (both g3 (both g4 (both g5 (both hm he))))) ?_
            refine Roundq.normal _ ?_ ⟨i + 1, l1, bl1, size1, B1, Has1, by omega, by simp [g0], by simp [g3], by simp, by simp, rfl, hw1, hH1⟩; omega
          · refine walk (both g0 (both g3 (both g4 (both g5 (both hm he))))) ?_
            refine Roundq.normal _ ?_ ⟨i + 1, l1, bl1, size1, B1, Has1, by omega, by simp [g0], by simp [g3], by simp, by simp, rfl, hw1, hH1⟩; omega
      · obtain ⟨va, vc, vx, rfl, hvc, hvx⟩ := hSb.form
        refine walk (both g0 (both g3 (both g4 (both g5 (both hb2 (both x0 (both x1 hk))))))) ?_
        refine Wq.regionM [(6, 0), (7, 0), (8, 0), (9, 0), (10, 0), (11, 0), (12, 0), (0, 0), (1, 0), (2, 0), (3, 0), (4, 0), (5, 2), (13, 0), (14, 0), (15, 0), (16, 0), (17, 2), (18, 0), (19, 0), (20, 0), (21, 0), (22, 0), (23, 0)] (by kernel_rfl) ?_
        refine mwalk (both g0 (both g3 (both g4 (both g5 (both hb2 (both x0 (both x1 (both x2 (both x3 hk))))))))) ?_
        refine Dq.append (own := (OwnSl.mk (n := 0) (cs := []) (by simp) (by simp) (by simp))) (new := cellsOfBytes x.b) (q := x.b.length) rfl met_none (by simp (disch := omega) [hb2, -getElem?_pos, wrapI64, tdivN, tmodN, ipos, ineg, dpos, dneg, slc_l, slc_h, slc_lh, slc_hm, slc_lhm, slc_0, slcR_some, slcR_none, cutS_ok, cutA_ok, byteAt_ok]; first | done | (repeat' (first | rfl | apply And.intro))) ⟨_, rfl, by simp; first | done | (repeat' (first | rfl | apply And.intro))⟩ rfl (by kernel_rfl) (by kernel_rfl) ((hSb.push _).src') (by simp) (cellsOfBytes_one _) (by omega) (by omega) fun w1 H2 o1 b1 s1 => ?_
        have ka : Keep H' H2 := (Upd.rfl.push _).butOne b1 (fun b hb hl => by simp [slBlock] at hb; omega)
        have kan := ka.next
        have nb1 : ∀ b, slBlock w1 = some b → H'.next ≤ b := by
          intro b hb
          rcases s1 with s1 | s1
          · rw [s1] at hb; simp [slBlock] at hb; omega
          · rw [s1] at hb; simp at hb; omega
        rw [Nat.zero_add, List.nil_append] at o1
        obtain ⟨wa1, wx1, rfl, _⟩ := o1.form
        have j2 := (ka.get (by omega)).trans hb2
        refine mwalk (both g0 (both g3 (both g4 (both g5 (both hb2 (both j2 (both x0 (both x1 (both x2 (both x3 hk)))))))))) ?_
        have hpl := hH.rep.lt hw'
        refine Cl.wfK ((write_all x.pos x.room r2 _ x.b hxb H2 (hH.rep.upd hw' ka fun _ _ => id) hH.sim o1.sl (fun q hq hf => by have := nb1 q hq; have := hpl q hf; omega)).mono fun w H3 hn3 ⟨e2, l1, bl1, size1, h3, hup, hfp, hlen, hsimf⟩ hw3 => ?_)
        change w = .tuple [.int .i64 (wCnt (needN (hasF Has) x.pos x.b.length) x.pos x.b.length x.room), .int .i64 (wErr (needN (hasF Has) x.pos x.b.length) x.pos x.b.length x.room)] at e2
        change (l1.length : Int) = l'.length + wCnt (needN (hasF Has) x.pos x.b.length) x.pos x.b.length x.room at hlen
        subst e2
        obtain ⟨B1, Has1, hs1⟩ : ∃ B1 Has1, SimA l1 bl1 size1 B1 Has1 := by
          by_cases c : x.pos < 0 ∨ x.pos > 65536 ∨ (x.b.length : Int) > 65536 - x.pos ∨ needN (hasF Has) x.pos x.b.length > x.room ∨ x.b.length = 0
          · exact ⟨B, Has, hsimf _ _ (.inl ⟨c, rfl, rfl⟩)⟩
          · obtain ⟨B1, Has1, hR⟩ := rwrote_ex B Has hsh x.pos x.b (by omega) (by omega)
            exact ⟨B1, Has1, hsimf _ _ (.inr ⟨c, hR⟩)⟩
        have hcl1 := len_count _ _ l1 rfl h3.once hs1.dom
        have hcl3 : Has1.count true ≤ Has1.length := List.count_le_length
        have hb1 := hs1.bmax
        have hl1 := hs1.hlen
        have hz := wErr_cnt (needN (hasF Has) x.pos x.b.length) x.pos x.b.length x.room
        generalize wCnt (needN (hasF Has) x.pos x.b.length) x.pos x.b.length x.room = cnt at *
        generalize wErr (needN (hasF Has) x.pos x.b.length) x.pos x.b.length x.room = ern at *
        have hm : (l'.length : Int) + cnt = l1.length := by omega
        have hH1 := (hH.keep hw' ka).step h3 hs1 hup hfp
        by_cases he : ern = 0
        · refine mwalk (both g0 (both g3 (both g4 (both g5 he)))) ?_
          refine walk (both g0 (both g3 (both g4 (both g5 (both hm he))))) ?_
          refine Roundq.normal _ ?_ ⟨i + 1, l1, bl1, size1, B1, Has1, by omega, by simp [g0], by simp [g3], by simp, by simp, rfl, hw3, hH1⟩; omega
        · have hz : cnt = 0 := by omega
          subst hz
          refine mwalk (both g0 (both g3 (both g4 (both g5 he)))) ?_
          refine walk (both g0 (both g3 (both g4 (both g5 (both hm he))))) ?_
          refine Roundq.normal _ ?_ ⟨i + 1, l1, bl1, size1, B1, Has1, by omega, by simp [g0], by simp [g3], by simp, by simp, rfl, hw3, hH1⟩; omega
    · have : i = L.length := by omega
      subst this
      refine walk (both g0 (both g3 (both g4 g5))) ?_
      refine (blocks_some _ _ size l' H' hH.rep.p0 hH.rep.r0).mono fun w H1 _ ⟨e1, e2⟩ => ?_
      subst e1; subst e2
      refine walk (both g0 (both g3 (both g4 g5))) ?_
      refine Cl.prim (v := .bool true) (H' := H1) rfl rfl ?_
      refine walk (both g0 (both g3 (both g4 g5))) ?_
      rfl
end Go.Abs

/- The seat's own facts for its rows. -/
namespace Go.Proofs.Ytpcchlcbmhmopaa
open Go.ChangeShapes Go.WideShapes Go.ChangeAt Go.RowKit Go.Abs
set_option linter.unusedVariables false
set_option maxRecDepth 100000

theorem own : ownKnob Try.prog.godebug = none := by kernel_rfl
theorem laidOut : laidOutB Try.prog = true := by kernel_rfl
theorem mixed : Try.prog.follows .mixedOrders = true := by kernel_rfl
theorem plainN : plainNames Try.prog = true := by kernel_rfl
theorem run14 : ((acall Try.prog noPrims 40 14 [] (Heap.start Try.prog.globals.size)).map fun r => sameAV r.1 (.bool true)) = some true := by kernel_rfl
theorem runs14 : ∃ n H', acall Try.prog noPrims n 14 [] (Heap.start Try.prog.globals.size) = some (.bool true, H') := runs_of run14
theorem primsOk : PrimsOk Try.prog pr04 := by
  refine closedPrims_ok mixed plainN fun p hp => ?_
  simp at hp
  subst hp
  exact ⟨rfl, runs14⟩
theorem primsRl : PrimsRl pr04 := closedPrims_rl _
end Go.Proofs.Ytpcchlcbmhmopaa

/- SparseBlocks: the row. -/
namespace Go.Proofs.Ytpcchlcbmhmopaa
open Go.ChangeShapes Go.WideShapes Go.ChangeAt Go.RowKit Go.Abs
set_option linter.unusedVariables false
set_option maxRecDepth 100000

theorem sparseBlocksMain (H : Heap) (xs : List AV) (hG : Try.prog.globals.size ≤ H.next) (hw : Wf H) (h : PicAll Try.prog H 4 [22] xs) : CallsA Try.prog pr04 5 xs H fun v _ => v = .bool true := by
  obtain ⟨a0, r0, rfl, h0, hend⟩ := h
  obtain rfl : r0 = [] := hend
  refine Cl.callsA primsRl hw ?_
  obtain ⟨l, hl, hx⟩ := acts_of (picV_slice Try.underlying22 h0)
  exact sparseBlocks_main _ l hl H hx

theorem sparseBlocksLifted (os : Os) (started : os.Started) (H : Type) (enc : TypeId × Value → H) :
    ReturnsInHanded {} Try.checked os 5 .any (Rows.sparseBlocksSpec.pre6 enc Try.prog Try.f5 Rows.sparseBlocksRow.domain false) (Rows.sparseBlocksSpec.post enc Try.prog Try.f5 false true false false) := by
  refine returnsInHanded_of_change (C := Try.checked) own started (by kernel_rfl) Try.func5
    (ChangeSpec.witness6 (enc := enc) (C := Try.checked) false ⟨#[], #[.slice none 0 0], []⟩ 8 (by kernel_rfl) (by kernel_rfl) (by kernel_rfl) (by kernel_rfl)) ?_
  intro W base args ds gs before hval hW hcnd _
  have ep : Try.f5.params.toList = [22] := by kernel_rfl
  refine law_post laidOut rfl (fun ds h => ?_) (tb := 4) (by kernel_rfl) Try.underlying4 ?_ hW (fun p hA => ?_)
  · rw [ep] at h
    match ds, h with
    | [a0], _ => rfl
  · rw [ep]
    intro t ht
    simp at ht
    subst ht; exact ⟨by kernel_rfl, of_decide_eq_true (by kernel_rfl)⟩
  · refine law_calls primsOk mixed plainN Try.func5 rfl (n := 4) (base := base) (ts := Try.f5.params.toList) ?_ ?_ ?_ hA
    · rw [ep]
      intro t ht
      simp at ht
      subst ht; kernel_rfl
    · rw [ep]
      exact sparseBlocksMain
    · intro j t v h1 h2
      exact hval j t v (by simpa using h1) (by simpa using h2)

theorem sparseBlocks : Rows.SparseBlocksSaid :=
  OpenClaim.holds_of_wide 5 Try.f5 rfl rfl rfl rfl rfl rfl rfl ⟨rfl, rfl, rfl, rfl, rfl⟩ rfl rfl rfl rfl rfl (by kernel_rfl) Try.func5 (by kernel_rfl)
    (of_decide_eq_true (by kernel_rfl)) (by unfold Func.isWrapper; first | (rw [if_pos (by decide +kernel)]; kernel_rfl) | (rw [if_neg (by decide +kernel)]; exact ⟨rfl, rfl⟩))
    (fun os started H enc _ => sparseBlocksLifted os started H enc)
-- #print axioms sparseBlocks
end Go.Proofs.Ytpcchlcbmhmopaa
