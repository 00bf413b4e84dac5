/- Texts on this program, joined. -/
import Derived.Test.YtllnhgcndinodaaOwn09
import Derived.Test.YtllnhgcndinodaaKit04

/- Chapter 06: files of a store, walked. -/
namespace Go.Abs
open Go.Proofs
set_option maxRecDepth 100000
set_option linter.unusedVariables false
set_option linter.unusedSimpArgs false

theorem New19_ok (n b : Int) (hn : 1 ≤ n ∧ n ≤ 256) (hb : 0 ≤ b ∧ b ≤ 4096) (H : Heap) : Cl Try.prog pr06 19 [.int .i64 n, .int .i64 b] H fun v H' => Keep H H' ∧ ∃ s r0, v = .ptr (some (s, 0)) ∧ StoR H' s r0 [] 1 n b 0 ∧ H.next ≤ s ∧ H.next ≤ r0 := by
  refine Cl.wf fun hw => ?_
  have h1 : ¬ n < 1 := by omega
  have h2 : ¬ 256 < n := by omega
  have h3 : ¬ b < 0 := by omega
  have h4 : ¬ 4096 < b := by omega
  refine Cl.enter Try.func19 rfl rfl Try.ntmps19 (by simp) ?_
  refine walk (both h1 (both h2 (both h3 h4))) ?_
  refine ⟨(Upd.rfl.push _).push _, H.next + 1, H.next, by simp, ⟨?_, ?_, by simp, by simp, by simp, by omega⟩, by omega, by omega⟩
  · rw [Heap.get_push, if_pos (by simp)]
  · rw [Heap.get_push, if_neg (by simp), Heap.get_push, if_pos rfl]
    rfl
theorem New19_no (n b : Int) (h : ¬ (1 ≤ n ∧ n ≤ 256 ∧ 0 ≤ b ∧ b ≤ 4096)) (H : Heap) : Cl Try.prog pr06 19 [.int .i64 n, .int .i64 b] H fun v H' => v = .ptr none ∧ H' = H := by
  refine Cl.enter Try.func19 rfl rfl Try.ntmps19 (by simp) ?_
  by_cases h1 : n < 1
  · refine walk h1 ?_
    exact ⟨rfl, rfl⟩
  · by_cases h2 : 256 < n
    · refine walk (both h1 h2) ?_
      exact ⟨rfl, rfl⟩
    · by_cases h3 : b < 0
      · refine walk (both h1 (both h2 h3)) ?_
        exact ⟨rfl, rfl⟩
      · have h4 : 4096 < b := by omega
        refine walk (both h1 (both h2 (both h3 h4))) ?_
        exact ⟨rfl, rfl⟩
theorem rdL_rdB {l : List (Int × Nat)} {bl : Nat → List UInt8} {size : Int} {B : List UInt8} {Has : List Bool} (h : SimA l bl size B Has) (off n : Int) (ho : 0 ≤ off) (hn : 0 ≤ n) (hs : off < size) : rdL (cell l bl) off (min n (size - off)).toNat = rdB B off n := by
  have hsz := h.size
  unfold rdB
  rw [if_neg (by omega)]
  apply List.ext_getElem?
  intro i
  by_cases hi : i < (min n (size - off)).toNat
  · have e3 := h.cel (off + i).toNat
    rw [show (((off + i).toNat : Nat) : Int) = off + i from by omega] at e3
    simp only [rdL, List.getElem?_map, List.getElem?_range hi, Option.map_some, List.getElem?_take, List.getElem?_drop]
    rw [if_pos (by omega), e3, show off.toNat + i = (off + i).toNat from by omega, List.getElem?_eq_getElem (by omega)]
    simp [List.getD, List.getElem?_eq_getElem (by omega : (off + i).toNat < B.length)]
  · rw [List.getElem?_eq_none (by rw [rdL_len]; omega), List.getElem?_eq_none (by simp; omega)]

set_option maxHeartbeats 2000000 in
/-- What is left of a file that is written. -/
def WR (B : List UInt8) (Has : List Bool) (off : Int) (b : List UInt8) (room : Int) (B' : List UInt8) (Has' : List Bool) : Prop :=
  (off < 0 ∨ off > 65536 ∨ (b.length : Int) > 65536 - off ∨ needN (hasF Has) off b.length > room ∨ b.length = 0) ∧ B' = B ∧ Has' = Has ∨
    ¬ (off < 0 ∨ off > 65536 ∨ (b.length : Int) > 65536 - off ∨ needN (hasF Has) off b.length > room ∨ b.length = 0) ∧ RWrote B Has off b B' Has'
theorem needN_ge (has : Int → Bool) (off n : Int) : 0 ≤ needN has off n := by
  unfold needN
  split
  · omega
  · exact (lackN_bd _ _ _).1
theorem wCnt_bd (has : Int → Bool) (off n room : Int) : 0 ≤ wCnt (needN has off n) off n room ∧ (wCnt (needN has off n) off n room = 0 ∨ wCnt (needN has off n) off n room ≤ room) := by
  have := needN_ge has off n
  unfold wCnt
  split
  · exact ⟨by omega, .inl rfl⟩
  · exact ⟨this, .inr (by omega)⟩
section
variable {H : Heap} {s r0 : Nat} {Q : List (Nd × Ph)} {next many blocks used : Int} {c : Nat} {i : Nat} {x : Nd} {p : Ph}
theorem Read15_no (h : StoR H s r0 Q next many blocks used) {n : Int} (off k : Int) (hn : ∀ x ∈ nds Q, x.ino ≠ n) : Cl Try.prog pr06 15 [.ptr (some (s, 0)), .int .i64 n, .int .i64 off, .int .i64 k] H fun v H' => v = .tuple [.slice none 0 0 none, .int .i64 2] ∧ H' = H := by
  refine Cl.enter Try.func15 rfl rfl Try.ntmps15 (by simp) ?_
  refine walk none0 ?_
  refine (file44_no h hn).mono fun v H1 _ ⟨ea, eb⟩ => ?_
  subst ea; subst eb
  refine walk none0 ?_
  exact ⟨rfl, rfl⟩
theorem Read15_yes (h : StoR H s r0 Q next many blocks used) (f : Fine (nds Q) next many blocks c) (hq : Q[i]? = some (x, p)) (off k : Int) : Cl Try.prog pr06 15 [.ptr (some (s, 0)), .int .i64 x.ino, .int .i64 off, .int .i64 k] H fun v H' =>
    ∃ w, v = .tuple [w, .int .i64 (if x.kind = 1 then 0 else 22)] ∧ Keep H H' ∧ Sl H' 1 w (if x.kind = 1 then rdB x.B off k else []).length (cellsOfBytes (if x.kind = 1 then rdB x.B off k else [])) ∧ LiveS H' w := by
  have hI : InoR H x p := h.ino i _ hq
  refine Cl.enter Try.func15 rfl rfl Try.ntmps15 (by simp) ?_
  refine walk none0 ?_
  refine (file44_yes h f hq).mono fun v H1 _ ⟨ea, eb⟩ => ?_
  subst ea; subst eb
  by_cases hk : x.kind = 1
  · obtain ⟨fr, a⟩ := hI.file hk
    rw [show fileP x p = some (p.p, 0) from if_pos hk]
    simp only [if_pos hk]
    refine walk none0 ?_
    by_cases hc : off < 0 ∨ k < 0 ∨ (x.B.length : Int) ≤ off
    · have e0 : rdB x.B off k = [] := by
        unfold rdB
        split
        · rfl
        · rcases hc with g | g | g
          · omega
          · rw [show k.toNat = 0 by omega]; simp
          · rw [List.drop_of_length_le (by omega)]; simp
      refine (read_no _ _ _ _ _ off k H1 fr hc).mono fun v H2 _ ⟨ea, eb⟩ => ?_
      subst ea; subst eb
      refine walk none0 ?_
      exact ⟨_, rfl, Upd.rfl, by rw [e0]; exact Sl.nil, fun b o n c x e => by cases e⟩
    · refine (read_yes _ _ _ _ _ off k H1 fr (by omega) (by omega) (by omega) (by have := a.bmax; omega)).mono fun v H2 _ fF => ?_
      rw [rdL_rdB a off k (by omega) (by omega) (by omega)] at fF
      have hS := fF.own.sl
      have hLv := fF.own.live
      have hkp := fF.keep
      have hlen := hS.len
      rw [cellsOfBytes_len, Nat.mul_one] at hlen
      rw [← hlen] at hS
      clear fF
      refine walk none0 ?_
      exact ⟨_, rfl, hkp, hS, hLv⟩
  · rw [show fileP x p = none from if_neg hk]
    simp only [if_neg hk]
    refine walk none0 ?_
    exact ⟨_, rfl, Upd.rfl, Sl.nil, fun b o n c x e => by cases e⟩
theorem Write27_no (h : StoR H s r0 Q next many blocks used) {n : Int} (off : Int) (bv : AV) (hn : ∀ x ∈ nds Q, x.ino ≠ n) : Cl Try.prog pr06 27 [.ptr (some (s, 0)), .int .i64 n, .int .i64 off, bv] H fun v H' => v = .int .i64 2 ∧ H' = H := by
  refine Cl.enter Try.func27 rfl rfl Try.ntmps27 (by simp) ?_
  refine walk none0 ?_
  refine (file44_no h hn).mono fun v H1 _ ⟨ea, eb⟩ => ?_
  subst ea; subst eb
  refine walk none0 ?_
  exact ⟨rfl, rfl⟩
theorem Write27_kind (h : StoR H s r0 Q next many blocks used) (f : Fine (nds Q) next many blocks c) (hq : Q[i]? = some (x, p)) (hk : x.kind ≠ 1) (off : Int) (bv : AV) : Cl Try.prog pr06 27 [.ptr (some (s, 0)), .int .i64 x.ino, .int .i64 off, bv] H fun v H' => v = .int .i64 22 ∧ H' = H := by
  refine Cl.enter Try.func27 rfl rfl Try.ntmps27 (by simp) ?_
  refine walk none0 ?_
  refine (file44_yes h f hq).mono fun v H1 _ ⟨ea, eb⟩ => ?_
  subst ea; subst eb
  rw [show fileP x p = none from if_neg hk, if_neg hk]
  refine walk none0 ?_
  exact ⟨rfl, rfl⟩
set_option maxHeartbeats 1000000 in
theorem Write27_yes (h : StoR H s r0 Q next many blocks used) (hw : Wf H) (f : Fine (nds Q) next many blocks c) (hq : Q[i]? = some (x, p)) (hk : x.kind = 1) (hu : 0 ≤ used ∧ used ≤ blocks) (off : Int) (ho : i64 off) (b : List UInt8) (hbl : b.length ≤ 300) (bv : AV) (hb : Sl H 1 bv b.length (cellsOfBytes b)) (hd : ∀ z, slBlock bv = some z → ¬ footS s r0 Q z) :
    Cl Try.prog pr06 27 [.ptr (some (s, 0)), .int .i64 x.ino, .int .i64 off, bv] H fun v H' => v = .int .i64 (wErr (needN (hasF x.Has) off b.length) off b.length (blocks - used)) ∧ ∃ p', Upd (footS s r0 Q) H H' ∧
      (∀ B' Has', ∀ z, footS s r0 (Q.set i ({ x with B := B', Has := Has' }, p')) z → footS s r0 Q z ∨ H.next ≤ z) ∧
      ∀ B' Has', WR x.B x.Has off b (blocks - used) B' Has' → StoR H' s r0 (Q.set i ({ x with B := B', Has := Has' }, p')) next many blocks (used + wCnt (needN (hasF x.Has) off b.length) off b.length (blocks - used)) ∧ (Has'.count true : Int) = x.Has.count true + wCnt (needN (hasF x.Has) off b.length) off b.length (blocks - used) := by
  have hI : InoR H x p := h.ino i _ hq
  have hg := h.g
  have hbb := f.bb
  obtain ⟨fr, a⟩ := hI.file hk
  obtain ⟨o1, o2⟩ := h.off i _ hq
  have hfS : ∀ z, fpI (x, p) z → footS s r0 Q z := fun z hz => .inr (.inr ⟨i, _, hq, hz⟩)
  have hsl := hw.lt hg
  have hff : ∀ z, fpF p.p p.r p.l z → fpI (x, p) z := fun z hz => .inr (.inl ⟨hk, hz⟩)
  obtain ⟨q1, q2⟩ := wCnt_bd (hasF x.Has) off b.length (blocks - used)
  refine Cl.enter Try.func27 rfl rfl Try.ntmps27 (by simp) ?_
  refine walk none0 ?_
  refine (file44_yes h f hq).mono fun v H1 _ ⟨ea, eb⟩ => ?_
  subst ea; subst eb
  rw [show fileP x p = some (p.p, 0) from if_pos hk, if_pos hk]
  refine walk none0 ?_
  refine Wq.regionD [0, 1, 2, 3, 4, 5, 6, 7, 8, 9, 10, 11, 12, 13, 14, 15, 16, 17] (by kernel_rfl) ?_
  refine walk hg ?_
  refine (write_all off (blocks - used) ho bv b hbl H1 fr a hb fun z hz hc => hd z hz (hfS z (hff z hc))).mono fun v H2 hw2 ⟨ea, l', bl', size', f2, u2, fp2, ln2, sim2⟩ => ?_
  subst ea
  have hg2 : H2.get s = some (.cells [.map (some r0), .int .i64 next, .int .i64 many, .int .i64 blocks, .int .i64 used] 74 true false) := (u2.keep s hsl fun hc => o1 (hff _ hc)).trans hg
  have hc2 := (u2.keep p.blk (hw.lt hI.g) fun hc => hI.ap.1 hk hc).trans hI.g
  have hn2 := u2.next
  have hlc := len_count _ x.Has p.l rfl fr.once a.dom
  unfold wCnt at q1 q2 ⊢
  unfold wErr
  generalize hcn : (if off < 0 ∨ off > 65536 ∨ (b.length : Int) > 65536 - off ∨ needN (hasF x.Has) off b.length > blocks - used then 0 else needN (hasF x.Has) off b.length) = cn at *
  generalize (if off < 0 then (22 : Int) else if off > 65536 ∨ (b.length : Int) > 65536 - off then 27 else if needN (hasF x.Has) off b.length > blocks - used then 28 else 0) = er at *
  refine walk hg2 ?_
  have hs3 : Upd (fun z => z = s ∨ fpI (x, p) z) H1 (H2.set s (.cells [.map (some r0), .int .i64 next, .int .i64 many, .int .i64 blocks, .int .i64 (used + cn)] 74 true false)) :=
    (u2.mono fun z _ hz => .inr (hff z hz)).set _ (by omega) fun _ => .inl rfl
  refine ⟨rfl, ⟨p.blk, p.p, p.r, p.d, l', bl'⟩, hs3.mono fun z _ hz => hz.elim .inl (hfS z), fun B' Has' => ?_, fun B' Has' hWR => ?_⟩
  · refine footS_set hq fun z hz => ?_
    rcases hz with rfl | ⟨_, hz⟩ | ⟨hk2, _⟩
    · exact .inl (.inl rfl)
    · rcases fp2 z hz with g | g
      · exact .inl (hff z g)
      · exact .inr g
    · simp only [] at hk2; omega
  · have sa := sim2 B' Has' hWR
    have hlc2 := len_count _ Has' l' rfl f2.once sa.dom
    obtain rfl := sa.size
    refine ⟨?_, by rw [hcn] at *; omega⟩
    refine h.turn hw hq (Heap.get_set_same _ _ _) hs3 ⟨?_, fun _ => ⟨?_, sa⟩, fun hc => absurd hk hc, fun hc => by simp only [] at hc; omega, fun _ hc => ?_, fun hc => by simp only [] at hc; omega⟩ rfl rfl fun z hz => ?_
    · rw [Heap.get_set_ne _ _ (fun e => o1 (.inl e.symm))]
      exact hc2
    · refine f2.keep fun z hz => Heap.get_set_ne _ _ fun e => ?_
      rcases fp2 z hz with g | g
      · exact o1 (hff _ (e ▸ g))
      · omega
    · rcases fp2 _ hc with g | g
      · exact hI.ap.1 hk g
      · have := hw.lt hI.g
        have g' : H1.next ≤ p.blk := g
        omega
    · rcases hz with rfl | ⟨_, hz⟩ | ⟨hk2, _⟩
      · exact .inl (.inl rfl)
      · rcases fp2 z hz with g | g
        · exact .inl (hff z g)
        · exact .inr g
      · simp only [] at hk2; omega
theorem Truncate28_no (h : StoR H s r0 Q next many blocks used) {n : Int} (k : Int) (hn : ∀ x ∈ nds Q, x.ino ≠ n) : Cl Try.prog pr06 28 [.ptr (some (s, 0)), .int .i64 n, .int .i64 k] H fun v H' => v = .int .i64 2 ∧ H' = H := by
  refine Cl.enter Try.func28 rfl rfl Try.ntmps28 (by simp) ?_
  refine walk none0 ?_
  refine (file44_no h hn).mono fun v H1 _ ⟨ea, eb⟩ => ?_
  subst ea; subst eb
  refine walk none0 ?_
  exact ⟨rfl, rfl⟩
theorem Truncate28_kind (h : StoR H s r0 Q next many blocks used) (f : Fine (nds Q) next many blocks c) (hq : Q[i]? = some (x, p)) (hk : x.kind ≠ 1) (k : Int) : Cl Try.prog pr06 28 [.ptr (some (s, 0)), .int .i64 x.ino, .int .i64 k] H fun v H' => v = .int .i64 22 ∧ H' = H := by
  refine Cl.enter Try.func28 rfl rfl Try.ntmps28 (by simp) ?_
  refine walk none0 ?_
  refine (file44_yes h f hq).mono fun v H1 _ ⟨ea, eb⟩ => ?_
  subst ea; subst eb
  rw [show fileP x p = none from if_neg hk, if_neg hk]
  refine walk none0 ?_
  exact ⟨rfl, rfl⟩
def tB (B : List UInt8) (n : Int) : List UInt8 := if n < 0 ∨ n > 65536 then B else cutB B n.toNat
def tH (Has : List Bool) (n : Int) : List Bool := if n < 0 ∨ n > 65536 then Has else cutH Has n.toNat
def tE (n : Int) : Int := if n < 0 then 22 else if n > 65536 then 27 else 0
theorem cutH_count (Has : List Bool) (n : Nat) : (cutH Has n).count true ≤ Has.count true := (List.take_sublist _ _).count_le _
theorem tH_count (Has : List Bool) (n : Int) : (if n < 0 ∨ n > 65536 then 0 else (Has.count true : Int) - (cutH Has n.toNat).count true) = (Has.count true : Int) - (tH Has n).count true := by
  unfold tH
  split <;> simp
set_option maxHeartbeats 1000000 in
theorem Truncate28_yes (h : StoR H s r0 Q next many blocks used) (hw : Wf H) (f : Fine (nds Q) next many blocks c) (hq : Q[i]? = some (x, p)) (hk : x.kind = 1) (hu : 0 ≤ used ∧ used ≤ blocks) (n : Int) (hn : i64 n) :
    Cl Try.prog pr06 28 [.ptr (some (s, 0)), .int .i64 x.ino, .int .i64 n] H fun v H' => v = .int .i64 (tE n) ∧ ∃ p', Upd (footS s r0 Q) H H' ∧
      (∀ z, footS s r0 (Q.set i ({ x with B := tB x.B n, Has := tH x.Has n }, p')) z → footS s r0 Q z ∨ H.next ≤ z) ∧
      StoR H' s r0 (Q.set i ({ x with B := tB x.B n, Has := tH x.Has n }, p')) next many blocks (used - (x.Has.count true - (tH x.Has n).count true)) := by
  have hI : InoR H x p := h.ino i _ hq
  have hg := h.g
  have hbb := f.bb
  obtain ⟨fr, a⟩ := hI.file hk
  obtain ⟨o1, o2⟩ := h.off i _ hq
  have hfS : ∀ z, fpI (x, p) z → footS s r0 Q z := fun z hz => .inr (.inr ⟨i, _, hq, hz⟩)
  have hsl := hw.lt hg
  have hff : ∀ z, fpF p.p p.r p.l z → fpI (x, p) z := fun z hz => .inr (.inl ⟨hk, hz⟩)
  have hc1 : ((tH x.Has n).count true : Int) ≤ x.Has.count true := by
    unfold tH
    split
    · omega
    · have := cutH_count x.Has n.toNat
      omega
  have hB := f.by' x (List.mem_of_getElem? (nds_get hq))
  have hcl : x.Has.count true ≤ x.Has.length := List.count_le_length
  refine Cl.enter Try.func28 rfl rfl Try.ntmps28 (by simp) ?_
  refine walk none0 ?_
  refine (file44_yes h f hq).mono fun v H1 _ ⟨ea, eb⟩ => ?_
  subst ea; subst eb
  rw [show fileP x p = some (p.p, 0) from if_pos hk, if_pos hk]
  refine walk none0 ?_
  refine (trunc_all n hn H1 fr a).mono fun v H2 hw2 ⟨ea, l', bl', size', f2, sa, u2, fp2⟩ => ?_
  rw [tH_count] at ea
  subst ea
  have hg2 : H2.get s = some (.cells [.map (some r0), .int .i64 next, .int .i64 many, .int .i64 blocks, .int .i64 used] 74 true false) := (u2.keep s hsl fun hc => o1 (hff _ hc)).trans hg
  have hc2 := (u2.keep p.blk (hw.lt hI.g) fun hc => hI.ap.1 hk hc).trans hI.g
  have hn2 := u2.next
  obtain ⟨gone, hgn⟩ : ∃ gone, gone = (x.Has.count true : Int) - (tH x.Has n).count true := ⟨_, rfl⟩
  rw [← hgn]
  refine walk hg2 ?_
  have hs3 : Upd (fun z => z = s ∨ fpI (x, p) z) H1 (H2.set s (.cells [.map (some r0), .int .i64 next, .int .i64 many, .int .i64 blocks, .int .i64 (used - gone)] 74 true false)) :=
    (u2.mono fun z _ hz => .inr (hff z hz)).set _ (by omega) fun _ => .inl rfl
  have hfp : ∀ z, fpI ({ x with B := tB x.B n, Has := tH x.Has n }, ⟨p.blk, p.p, p.r, p.d, l', bl'⟩) z → fpI (x, p) z ∨ H1.next ≤ z := fun z hz => by
    rcases hz with rfl | ⟨_, hz⟩ | ⟨hk2, _⟩
    · exact .inl (.inl rfl)
    · exact .inl (hff z (fp2 z hz))
    · simp only [] at hk2; omega
  have sa' : SimA l' bl' size' (tB x.B n) (tH x.Has n) := sa
  obtain rfl := sa'.size
  refine ⟨rfl, ⟨p.blk, p.p, p.r, p.d, l', bl'⟩, hs3.mono fun z _ hz => hz.elim .inl (hfS z), footS_set hq hfp, h.turn hw hq (Heap.get_set_same _ _ _) hs3 ⟨?_, fun _ => ⟨?_, sa'⟩, fun hc => absurd hk hc, fun hc => by simp only [] at hc; omega, fun _ hc => hI.ap.1 hk (fp2 _ hc), fun hc => by simp only [] at hc; omega⟩ rfl rfl hfp⟩
  · rw [Heap.get_set_ne _ _ (fun e => o1 (.inl e.symm))]
    exact hc2
  · exact f2.keep fun z hz => Heap.get_set_ne _ _ fun e => o1 (hff _ (e ▸ fp2 z hz))
end
end Go.Abs

/- Chapter 06: Make, walked; what is told of a store that there is none of. -/
namespace Go.Abs
open Go.Proofs
set_option maxRecDepth 100000
set_option linter.unusedVariables false
set_option linter.unusedSimpArgs false

theorem ib86_ok (s : List UInt8) (c : UInt8) (H : Heap) : Cl Try.prog pr06 86 [.str s, .int .u8 c.toNat] H fun v H' => v = .int .i64 (Lib.indexByte s c) ∧ H' = H := by
  refine Cl.prim (v := .int .i64 (Lib.indexByte s c)) (H' := H) (g := fun args H => match ibAV args with | some v => some (v, H) | none => none) rfl ?_ ⟨rfl, rfl⟩
  simp [ibAV]
theorem ib63_ok (s : List UInt8) (c : UInt8) (H : Heap) : Cl Try.prog pr06 63 [.str s, .int .u8 c.toNat] H fun v H' => v = .int .i64 (Lib.indexByte s c) ∧ H' = H := by
  refine Cl.enter Try.func63 rfl rfl Try.ntmps63 (by simp) ?_
  refine walk none0 ?_
  have h78 : Cl Try.prog pr06 78 [.str s, .int .u8 c.toNat] H fun v H' => v = .int .i64 (Lib.indexByte s c) ∧ H' = H := by
    refine Cl.enter Try.func78 rfl rfl Try.ntmps78 (by simp) ?_
    refine walk none0 ?_
    refine (ib86_ok s c H).mono fun v H1 _ ⟨e1, e2⟩ => ?_
    subst e1; subst e2
    refine walk none0 ?_
    exact ⟨rfl, rfl⟩
  refine h78.mono fun v H1 _ ⟨e1, e2⟩ => ?_
  subst e1; subst e2
  refine walk none0 ?_
  exact ⟨rfl, rfl⟩
theorem ib_in (s : List UInt8) (c : UInt8) : 0 ≤ Lib.indexByte s c ↔ c ∈ s := by
  induction s with
  | nil => simp [Lib.indexByte]
  | cons b l ih =>
    have hg := Lib.indexByte_ge l c
    unfold Lib.indexByte
    by_cases e : b = c
    · subst e; simp
    · have hne : (b == c) = false := by simp [e]
      rw [hne]
      simp only [Bool.false_eq_true, if_false, List.mem_cons]
      have hc : c ∈ l ↔ 0 ≤ Lib.indexByte l c := ih.symm
      rw [hc]
      by_cases h1 : Lib.indexByte l c = -1
      · simp [h1]; exact fun e' => e e'.symm
      · have : (Lib.indexByte l c == -1) = false := by simp [h1]
        rw [this]
        simp only [Bool.false_eq_true, if_false]
        constructor
        · intro h; exact .inr (by omega)
        · rintro (h | h)
          · exact absurd h.symm e
          · omega
/-- Why a kind with a target can't be. -/
def wrongE (k : Int) (t : List UInt8) : Int :=
  if k = 3 then (if t = [] then 2 else if 256 < t.length then 63 else if (0 : UInt8) ∈ t then 22 else 0)
  else if (k = 1 ∨ k = 2 ∨ k = 4) ∧ t = [] then 0 else 22
theorem wrong49_ok (k : Int) (t : List UInt8) (ht : t.length ≤ 100000) (H : Heap) : Cl Try.prog pr06 49 [.int .i64 k, .str t] H fun v H' => v = .int .i64 (wrongE k t) ∧ H' = H := by
  unfold wrongE
  by_cases hk : k = 3
  · subst hk
    simp only [if_true]
    refine Cl.enter Try.func49 rfl rfl Try.ntmps49 (by simp) ?_
    by_cases h0 : t = []
    · subst h0
      refine walk none0 ?_
      exact ⟨rfl, rfl⟩
    · rw [if_neg h0]
      by_cases h1 : 256 < t.length
      · have h1I : 256 < (t.length : Int) := by omega
        rw [if_pos h1]
        refine walk (both h0 h1I) ?_
        exact ⟨rfl, rfl⟩
      · have h1I : ¬ 256 < (t.length : Int) := by omega
        rw [if_neg h1]
        refine walk (both h0 h1I) ?_
        refine (ib63_ok t 0 H).mono fun v H1 _ ⟨e1, e2⟩ => ?_
        subst e1; subst e2
        by_cases h2 : 0 ≤ Lib.indexByte t 0
        · rw [if_pos ((ib_in t 0).1 h2)]
          refine walk h2 ?_
          exact ⟨rfl, rfl⟩
        · rw [if_neg (fun g => h2 ((ib_in t 0).2 g))]
          refine walk h2 ?_
          exact ⟨rfl, rfl⟩
  · rw [if_neg hk]
    refine Cl.enter Try.func49 rfl rfl Try.ntmps49 (by simp) ?_
    by_cases h1 : k = 1
    · subst h1
      by_cases h0 : t = []
      · subst h0
        refine walk none0 ?_
        exact ⟨rfl, rfl⟩
      · refine walk h0 ?_
        exact ⟨by rw [if_neg (by simp [h0])], rfl⟩
    · by_cases h2 : k = 2
      · subst h2
        by_cases h0 : t = []
        · subst h0
          refine walk none0 ?_
          exact ⟨rfl, rfl⟩
        · refine walk h0 ?_
          exact ⟨by rw [if_neg (by simp [h0])], rfl⟩
      · by_cases h4 : k = 4
        · subst h4
          by_cases h0 : t = []
          · subst h0
            refine walk none0 ?_
            exact ⟨rfl, rfl⟩
          · refine walk h0 ?_
            exact ⟨by rw [if_neg (by simp [h0])], rfl⟩
        · refine walk (both hk (both h1 (both h2 h4))) ?_
          exact ⟨by rw [if_neg (by simp [h1, h2, h4])], rfl⟩
theorem wrongE_kind {k : Int} {t : List UInt8} (h : wrongE k t = 0) : 1 ≤ k ∧ k ≤ 4 ∧ t.length ≤ 256 ∧ (k ≠ 3 → t = []) := by
  unfold wrongE at h
  split at h
  · rename_i hk
    subst hk
    split at h
    · omega
    · split at h
      · omega
      · exact ⟨by omega, by omega, by omega, fun h => absurd rfl h⟩
  · rename_i hk
    split at h
    · rename_i g
      obtain ⟨g1, rfl⟩ := g
      exact ⟨by omega, by omega, by simp, fun _ => rfl⟩
    · omega
theorem New50_ok (H : Heap) : Cl Try.prog pr06 50 [] H fun v H' => v = .ptr (some (H.next + 1, 0)) ∧ H' = (H.push (.map [])).push (.cells [.map (some H.next), .int .i64 0] 107 true false) := by
  refine Cl.enter Try.func50 rfl rfl Try.ntmps50 (by simp) ?_
  refine walk none0 ?_
  exact ⟨by simp, rfl⟩
theorem New51_ok (H : Heap) : Cl Try.prog pr06 51 [] H fun v H' => v = .ptr (some (H.next, 0)) ∧ H' = H.push (.cells [.slice none 0 0 none] 110 true false) := by
  refine Cl.enter Try.func51 rfl rfl Try.ntmps51 (by simp) ?_
  refine walk none0 ?_
  exact ⟨rfl, rfl⟩
section
variable {H : Heap} {s r0 : Nat} {Q : List (Nd × Ph)} {next many blocks used : Int} {c : Nat}
def newNd (next k : Int) (t : List UInt8) : Nd := ⟨next, k, 0, 1, [], [], t⟩
theorem Make22_wrong (s : Nat) (k : Int) (t : List UInt8) (ht : t.length ≤ 100000) (he : wrongE k t ≠ 0) (H : Heap) : Cl Try.prog pr06 22 [.ptr (some (s, 0)), .int .i64 k, .str t] H fun v H' => v = .tuple [.int .i64 0, .int .i64 (wrongE k t)] ∧ H' = H := by
  refine Cl.enter Try.func22 rfl rfl Try.ntmps22 (by simp) ?_
  refine walk none0 ?_
  refine (wrong49_ok k t ht H).mono fun v H1 _ ⟨e1, e2⟩ => ?_
  subst e1; subst e2
  refine walk he ?_
  exact ⟨rfl, rfl⟩
theorem Make22_full (h : StoR H s r0 Q next many blocks used) (k : Int) (t : List UInt8) (ht : t.length ≤ 100000) (he : wrongE k t = 0) (hf : many ≤ (Q.length : Int)) : Cl Try.prog pr06 22 [.ptr (some (s, 0)), .int .i64 k, .str t] H fun v H' => v = .tuple [.int .i64 0, .int .i64 28] ∧ H' = H := by
  have hg := h.g
  have hm := h.m
  have hlen : (imap .i64 (pm ptrTo (imapL Q))).length = Q.length := by simp [imap_len, pm_len, imapL]
  refine Cl.enter Try.func22 rfl rfl Try.ntmps22 (by simp) ?_
  refine walk none0 ?_
  refine (wrong49_ok k t ht H).mono fun v H1 _ ⟨e1, e2⟩ => ?_
  subst e1; subst e2
  rw [he]
  refine walk none0 ?_
  refine Wq.regionD [0, 1, 2, 3, 4, 5, 6, 7, 8, 9] (by kernel_rfl) ?_
  refine walk (both hg (both hm hlen)) ?_
  have hf' : many ≤ ((imapL Q).length : Int) := by simpa [imapL] using hf
  refine walk (both hg (both hm (both hlen hf'))) ?_
  exact ⟨rfl, rfl⟩
theorem make_end {H2 : Heap} {k : Int} {t : List UInt8} {p : Ph} (h : StoR H s r0 Q next many blocks used) (hw : Wf H) (f : Fine (nds Q) next many blocks c) (u : Keep H H2) (hI : InoR H2 (newNd next k t) p) (hnew : ∀ z, fpI (newNd next k t, p) z → H.next ≤ z) :
    ∃ p', StoR ((H2.set r0 (.map (imap .i64 (pm ptrTo (iset next p.blk (imapL Q)))))).set s (.cells [.map (some r0), .int .i64 (next + 1), .int .i64 many, .int .i64 blocks, .int .i64 used] 74 true false)) s r0 (Q ++ [(newNd next k t, p')]) (next + 1) many blocks used ∧
      Upd (footS s r0 Q) H ((H2.set r0 (.map (imap .i64 (pm ptrTo (iset next p.blk (imapL Q)))))).set s (.cells [.map (some r0), .int .i64 (next + 1), .int .i64 many, .int .i64 blocks, .int .i64 used] 74 true false)) ∧
      ∀ z, footS s r0 (Q ++ [(newNd next k t, p')]) z → footS s r0 Q z ∨ H.next ≤ z := by
  have hsl := hw.lt h.g
  have hrl := hw.lt h.m
  have hn := u.next
  have u2 : Upd (fun z => z = s ∨ z = r0) H2 ((H2.set r0 (.map (imap .i64 (pm ptrTo (iset next p.blk (imapL Q)))))).set s (.cells [.map (some r0), .int .i64 (next + 1), .int .i64 many, .int .i64 blocks, .int .i64 used] 74 true false)) :=
    (Upd.rfl.set _ (by omega) fun _ => .inr rfl).set _ (by simp; omega) fun _ => .inl rfl
  have u1 : Upd (fun z => z = s ∨ z = r0) H ((H2.set r0 (.map (imap .i64 (pm ptrTo (iset next p.blk (imapL Q)))))).set s (.cells [.map (some r0), .int .i64 (next + 1), .int .i64 many, .int .i64 blocks, .int .i64 used] 74 true false)) :=
    (Upd.of u).trans u2 fun z _ hz => hz
  refine ⟨p, h.more hw (fun y hy e => ?_) (Heap.get_set_same _ _ _) ?_ u1 (hI.upd (u.wf hw) u2 fun z hz hc => ?_) hnew, u1.mono fun z _ hz => ?_, footS_more hnew⟩
  · have := f.bd y hy
    have e' : y.ino = next := e
    omega
  · rw [Heap.get_set_ne _ _ (fun e => h.ne e.symm), Heap.get_set_same]
    rfl
  · have := hnew z hz
    omega
  · rcases hz with rfl | rfl
    · exact .inl rfl
    · exact .inr (.inl rfl)
theorem Make22_ok (h : StoR H s r0 Q next many blocks used) (hw : Wf H) (f : Fine (nds Q) next many blocks c) (k : Int) (t : List UInt8) (he : wrongE k t = 0) (hf : (Q.length : Int) < many) : Cl Try.prog pr06 22 [.ptr (some (s, 0)), .int .i64 k, .str t] H fun v H' => v = .tuple [.int .i64 next, .int .i64 0] ∧
    ∃ p, StoR H' s r0 (Q ++ [(newNd next k t, p)]) (next + 1) many blocks used ∧ Upd (footS s r0 Q) H H' ∧ ∀ z, footS s r0 (Q ++ [(newNd next k t, p)]) z → footS s r0 Q z ∨ H.next ≤ z := by
  have hg := h.g
  have hm := h.m
  have hsl := hw.lt hg
  have hrl := hw.lt hm
  have hnx := f.nx
  have hcc := f.cc
  have hne1 : ¬ s = r0 := h.ne
  have hne2 : ¬ r0 = s := fun e => h.ne e.symm
  obtain ⟨w1, w2, w3, w4⟩ := wrongE_kind he
  have hlen : (imap .i64 (pm ptrTo (imapL Q))).length = Q.length := by simp [imap_len, pm_len, imapL]
  have hf' : ¬ many ≤ ((imapL Q).length : Int) := by simpa [imapL] using hf
  refine Cl.enter Try.func22 rfl rfl Try.ntmps22 (by simp) ?_
  refine walk none0 ?_
  refine (wrong49_ok k t (by omega) H).mono fun v H1 _ ⟨e1, e2⟩ => ?_
  subst e1; subst e2
  rw [he]
  refine walk none0 ?_
  refine Wq.regionD [0, 1, 2, 3, 4, 5, 6, 7, 8, 9] (by kernel_rfl) ?_
  refine walk (both hg (both hm (both hlen hf'))) ?_
  by_cases k1 : k = 1
  · subst k1
    refine walk none0 ?_
    refine (New50_ok _).mono fun v H2 _ ⟨e1, e2⟩ => ?_
    subst e1; subst e2
    refine walk none0 ?_
    obtain ⟨H2, e2⟩ : ∃ H2, H2 = (((H1.push (.cells [.int .i64 1, .int .i64 0, .int .i64 1, .ptr none, .ptr none, .str t] 82 true false)).push (.map [])).push (.cells [.map (some (H1.next + 1)), .int .i64 0] 107 true false)).set H1.next (.cells [.int .i64 1, .int .i64 0, .int .i64 1, .ptr (some (H1.next + 1 + 1, 0)), .ptr none, .str t] 82 true false) := ⟨_, rfl⟩
    have hk2 : ∀ z, z < H1.next → H2.get z = H1.get z := fun z hz => by
      rw [e2, Heap.get_set_ne _ _ (by omega), Heap.get_push, if_neg (by simp; omega), Heap.get_push, if_neg (by simp; omega), Heap.get_push, if_neg (by omega)]
    have hw2 : Keep H1 H2 := by rw [e2]; exact (((Upd.rfl.push _).push _).push _).set _ (by simp; omega) (by omega)
    have hI2 : InoR H2 (newNd next 1 t) ⟨H1.next, H1.next + 1 + 1, H1.next + 1, 0, [], fun _ => []⟩ := by
      rw [e2]
      refine ⟨?_, fun _ => ⟨⟨?_, ?_, trivial, by simp, by simp⟩, SimA.nil⟩, fun h => absurd rfl h, fun h => by simp [newNd] at h, ⟨fun _ => by simp [fpF]; omega, fun h => by simp [newNd] at h⟩⟩
      · rw [Heap.get_set_same]
        rfl
      · rw [Heap.get_set_ne _ _ (by simp only []; omega), Heap.get_push, if_pos (by simp)]
        rfl
      · rw [Heap.get_set_ne _ _ (by simp only []; omega), Heap.get_push, if_neg (by simp), Heap.get_push, if_pos (by simp)]
        rfl
    have hg2 := (hk2 s hsl).trans hg
    have hm2 := (hk2 r0 hrl).trans hm
    rw [← e2]
    clear e2
    refine Wq.regionD [0, 1, 2, 3, 4, 5, 6, 7, 8, 9] (by kernel_rfl) ?_
    refine walk (both hg2 (both hm2 (both hne1 hne2))) ?_
    refine ⟨rfl, make_end h hw f hw2 hI2 fun z hz => ?_⟩
    rcases hz with rfl | ⟨_, rfl | rfl | ⟨_, hz⟩⟩ | ⟨h2, _⟩
    · exact Nat.le_refl _
    · simp only []; omega
    · simp only []; omega
    · simp at hz
    · simp [newNd] at h2
  · by_cases k2 : k = 2
    · subst k2
      refine walk none0 ?_
      refine (New51_ok _).mono fun v H2 _ ⟨e1, e2⟩ => ?_
      subst e1; subst e2
      refine walk none0 ?_
      obtain ⟨H2, e2⟩ : ∃ H2, H2 = ((H1.push (.cells [.int .i64 2, .int .i64 0, .int .i64 1, .ptr none, .ptr none, .str t] 82 true false)).push (.cells [.slice none 0 0 none] 110 true false)).set H1.next (.cells [.int .i64 2, .int .i64 0, .int .i64 1, .ptr none, .ptr (some (H1.next + 1, 0)), .str t] 82 true false) := ⟨_, rfl⟩
      have hk2 : ∀ z, z < H1.next → H2.get z = H1.get z := fun z hz => by
        rw [e2, Heap.get_set_ne _ _ (by omega), Heap.get_push, if_neg (by simp; omega), Heap.get_push, if_neg (by omega)]
      have hw2 : Keep H1 H2 := by rw [e2]; exact ((Upd.rfl.push _).push _).set _ (by simp; omega) (by omega)
      have hI2 : InoR H2 (newNd next 2 t) ⟨H1.next, 0, 0, H1.next + 1, [], fun _ => []⟩ := by
        rw [e2]
        refine ⟨?_, fun h => by simp [newNd] at h, fun h => ⟨rfl, rfl⟩, fun _ => ?_, ⟨fun h => by simp [newNd] at h, fun _ => by simp⟩⟩
        · rw [Heap.get_set_same]
          rfl
        · rw [Heap.get_set_ne _ _ (by simp only []; omega), Heap.get_push, if_pos (by simp)]
      have hg2 := (hk2 s hsl).trans hg
      have hm2 := (hk2 r0 hrl).trans hm
      rw [← e2]
      clear e2
      refine Wq.regionD [0, 1, 2, 3, 4, 5, 6, 7, 8, 9] (by kernel_rfl) ?_
      refine walk (both hg2 (both hm2 (both hne1 hne2))) ?_
      refine ⟨rfl, make_end h hw f hw2 hI2 fun z hz => ?_⟩
      rcases hz with rfl | ⟨h1, _⟩ | ⟨_, rfl⟩
      · exact Nat.le_refl _
      · simp [newNd] at h1
      · simp only []; omega
    · refine walk (both k1 k2) ?_
      obtain ⟨H2, e2⟩ : ∃ H2, H2 = H1.push (.cells [.int .i64 k, .int .i64 0, .int .i64 1, .ptr none, .ptr none, .str t] 82 true false) := ⟨_, rfl⟩
      have hk2 : ∀ z, z < H1.next → H2.get z = H1.get z := fun z hz => by rw [e2, Heap.get_push, if_neg (by omega)]
      have hw2 : Keep H1 H2 := by rw [e2]; exact Upd.rfl.push _
      have hI2 : InoR H2 (newNd next k t) ⟨H1.next, 0, 0, 0, [], fun _ => []⟩ := by
        rw [e2]
        refine ⟨?_, fun h => absurd h k1, fun h => ⟨rfl, rfl⟩, fun h => absurd h k2, ⟨fun h => absurd h k1, fun h => absurd h k2⟩⟩
        rw [Heap.get_push, if_pos rfl]
        simp [cellI, newNd, fileP, dirP, k1, k2]
      have hg2 := (hk2 s hsl).trans hg
      have hm2 := (hk2 r0 hrl).trans hm
      rw [← e2]
      clear e2
      refine Wq.regionD [0, 1, 2, 3, 4, 5, 6, 7, 8, 9] (by kernel_rfl) ?_
      refine walk (both hg2 (both hm2 (both hne1 hne2))) ?_
      refine ⟨rfl, make_end h hw f hw2 hI2 fun z hz => ?_⟩
      rcases hz with rfl | ⟨h1, _⟩ | ⟨h2, _⟩
      · exact Nat.le_refl _
      · exact absurd h1 k1
      · exact absurd h2 k2
end
end Go.Abs

/- Chapter 06: the reference's list of nodes. -/
namespace Go.Abs
open Go.Proofs
set_option maxRecDepth 100000
set_option linter.unusedVariables false
set_option linter.unusedSimpArgs false

abbrev NW := Nd × AV × AV
def encW (w : NW) : List AV := [.int .i64 w.1.ino, .int .i64 w.1.kind, .int .i64 w.1.links, .int .i64 w.1.holds, .int .i64 0, w.2.1, w.2.2, .str w.1.tgt, .slice none 0 0 none]
@[simp] theorem encW_len (w : NW) : (encW w).length = 9 := rfl
theorem flatW_len (W : List NW) : (flat encW W).length = W.length * 9 := flat_len encW_len W
def ndw (W : List NW) : List Nd := W.map (·.1)
theorem ndw_len (W : List NW) : (ndw W).length = W.length := by simp [ndw]
theorem ndw_get {W : List NW} {i : Nat} {w : NW} (h : W[i]? = some w) : (ndw W)[i]? = some w.1 := by simp [ndw, h]
theorem ndw_inv {W : List NW} {i : Nat} {x : Nd} (h : (ndw W)[i]? = some x) : ∃ a b, W[i]? = some (x, a, b) := by
  simp only [ndw, List.getElem?_map] at h
  cases hq : W[i]? with
  | none => rw [hq] at h; cases h
  | some q =>
    rw [hq] at h
    injection h with h
    obtain ⟨q1, q2, q3⟩ := q
    simp only [] at h
    subst h
    exact ⟨q2, q3, rfl⟩
theorem ndw_set {W : List NW} {i : Nat} {x : Nd} {a b : AV} : ndw (W.set i (x, a, b)) = (ndw W).set i x := by simp [ndw, List.map_set]
theorem lt_of_getW {α : Type} {l : List α} {i : Nat} {x : α} (h : l[i]? = some x) : i < l.length := (List.getElem?_eq_some_iff.1 h).1
structure TabW (H : Heap) (m : Nat) (slv : AV) (W : List NW) (next many blocks : Int) : Prop where
  g : H.get m = some (.cells [slv, .int .i64 next, .int .i64 many, .int .i64 blocks] 32 true false)
  own : OwnG H 59 9 slv W.length (flat encW W)
  ap : slBlock slv ≠ some m
  bl : ∀ z, slBlock slv = some z → z < H.next
  lt : m < H.next
structure RefS (H : Heap) (m : Nat) (slv : AV) (W : List NW) (next many blocks : Int) : Prop where
  tab : TabW H m slv W next many blocks
  rf : ∀ (j : Nat) (w : NW), W[j]? = some w → RefR H (.agg [w.2.1, w.2.2]) w.1.B w.1.Has
  fb : ∀ (j : Nat) (w : NW), W[j]? = some w → ∀ z, blkOf (.agg [w.2.1, w.2.2]) z → z < H.next ∧ z ≠ m ∧ slBlock slv ≠ some z
def footR (m : Nat) (slv : AV) (W : List NW) : Nat → Prop := fun z => z = m ∨ slBlock slv = some z ∨ ∃ (j : Nat) (w : NW), W[j]? = some w ∧ blkOf (.agg [w.2.1, w.2.2]) z
def tabR (m : Nat) (slv : AV) : Nat → Prop := fun z => z = m ∨ slBlock slv = some z
section
variable {H H' : Heap} {m : Nat} {slv : AV} {W : List NW} {next many blocks : Int}
theorem TabW.upd {fp : Nat → Prop} (h : TabW H m slv W next many blocks) (u : Upd fp H H') (h1 : ¬ fp m) (h2 : ∀ z, slBlock slv = some z → ¬ fp z) : TabW H' m slv W next many blocks :=
  ⟨(u.keep m h.lt h1).trans h.g, h.own.upd u h2, h.ap, fun z hz => by have := h.bl z hz; have := u.next; omega, by have := h.lt; have := u.next; omega⟩
theorem TabW.kept (h : TabW H m slv W next many blocks) (k : Keep H H') : TabW H' m slv W next many blocks := h.upd k id fun _ _ h => h
theorem RefS.upd {fp : Nat → Prop} (h : RefS H m slv W next many blocks) (u : Upd fp H H') (hd : ∀ z, footR m slv W z → ¬ fp z) : RefS H' m slv W next many blocks :=
  ⟨h.tab.upd u (hd _ (.inl rfl)) fun z hz => hd z (.inr (.inl hz)), fun j w hw => (h.rf j w hw).upd u fun z hz => hd z (.inr (.inr ⟨j, w, hw, hz⟩)), fun j w hw z hz => by
    obtain ⟨g1, g2, g3⟩ := h.fb j w hw z hz
    have := u.next
    exact ⟨by omega, g2, g3⟩⟩
theorem RefS.kept (h : RefS H m slv W next many blocks) (k : Keep H H') : RefS H' m slv W next many blocks := h.upd k fun _ _ h => h
theorem RefS.lt (h : RefS H m slv W next many blocks) : ∀ z, footR m slv W z → z < H.next := by
  rintro z (rfl | hz | ⟨j, w, hw, hz⟩)
  · exact h.tab.lt
  · exact h.tab.bl z hz
  · exact (h.fb j w hw z hz).1
/-- A node, as it lies. -/
theorem TabW.node (h : TabW H m slv W next many blocks) {i : Nat} {w : NW} (hw : W[i]? = some w) : ∃ b o cap ex c, slv = .slice (some (b, o)) W.length cap ex ∧ W.length ≤ cap ∧ (ex = none ∨ ex = some 9) ∧ b < H.next ∧ H.get b = some (.cells c 59 true false) ∧ o + cap * 9 ≤ c.length ∧ o + i * 9 + 9 ≤ c.length ∧
    (c.drop o).take (W.length * 9) = flat encW W ∧ ∀ k, k < 9 → c[o + i * 9 + k]? = (encW w)[k]? := by
  have hi := lt_of_getW hw
  obtain ⟨a, cap, ex, rfl, hc, hex⟩ := h.own.form
  obtain ⟨b, o, c, rfl, h1, h2, h3, h4, h5, h6, h7⟩ := h.own.at (by omega)
  refine ⟨b, o, cap, ex, c, rfl, h1, h2, h3, h4, h5, by omega, h7, fun k hk => ?_⟩
  have := sub_get (i := i * 9 + k) h7 (by omega)
  rw [flat_get encW_len hw hk] at this
  rw [Nat.add_assoc]
  exact this
theorem TabW.putC {b o cap : Nat} {ex : Option Nat} {c c' : List AV} {i : Nat} {y : NW} (h : TabW H m (.slice (some (b, o)) W.length cap ex) W next many blocks) (hi : i < W.length) (hg : H.get b = some (.cells c 59 true false)) (hl : c'.length = c.length) (hc : (c'.drop o).take (W.length * 9) = flat encW (W.set i y)) :
    TabW (H.set b (.cells c' 59 true false)) m (.slice (some (b, o)) W.length cap ex) (W.set i y) next many blocks := by
  have hb := h.bl b rfl
  have hmb : m ≠ b := fun e => h.ap (by rw [e]; rfl)
  obtain ⟨b', o', d, e, h1, h2, h3, h4, h5, h6, h7⟩ := h.own.at (by omega)
  simp only [Option.some.injEq, Prod.mk.injEq] at e
  obtain ⟨rfl, rfl⟩ := e
  rw [hg] at h4
  injection h4 with h4; injection h4 with h4 _
  subst h4
  refine ⟨by rw [Heap.get_set, if_neg hmb]; exact h.g, ?_, h.ap, fun z hz => by simpa using h.bl z hz, by simpa using h.lt⟩
  have := OwnG.refill (H' := H.set b (.cells c' 59 true false)) (elem := 59) (s := 9) (n := W.length) h1 h2 (by simpa using hb) (Heap.get_set_same _ _ _) (by rw [hl]; exact h5)
  rw [hc] at this
  rw [List.length_set]
  exact this
theorem flatW_set {W : List NW} {i k : Nat} {x y : NW} {v : AV} (hx : W[i]? = some x) (hk : k < 9) (hy : encW y = (encW x).set k v) : (flat encW W).set (i * 9 + k) v = flat encW (W.set i y) := by
  induction W generalizing i with
  | nil => simp at hx
  | cons a l ih =>
    cases i with
    | zero =>
      simp at hx; subst hx
      simp only [flat, List.flatMap_cons, List.set_cons_zero, Nat.zero_mul, Nat.zero_add]
      rw [List.set_append_left _ _ (by simp; omega), hy]
    | succ i =>
      have := ih (i := i) (by simpa using hx)
      simp only [flat, List.flatMap_cons, List.set_cons_succ] at this ⊢
      rw [List.set_append_right _ _ (by simp; omega), ← this]
      congr 2
      simp; omega
theorem put1 {c : List AV} {o i k : Nat} {x y : NW} {v : AV} (h : (c.drop o).take (W.length * 9) = flat encW W) (hx : W[i]? = some x) (hk : k < 9) (hy : encW y = (encW x).set k v) : ((c.set (o + i * 9 + k) v).drop o).take (W.length * 9) = flat encW (W.set i y) := by
  have hi := lt_of_getW hx
  rw [← flatW_set hx hk hy, Nat.add_assoc]
  exact set_sub h (by omega)
theorem set_two {c : List AV} {k : Nat} {a b : AV} (h : k + 2 ≤ c.length) : c.take k ++ ([a, b] ++ c.drop (k + 2)) = (c.set k a).set (k + 1) b := by
  apply List.ext_getElem?
  intro j
  simp only [List.getElem?_append, List.getElem?_take, List.getElem?_drop, List.getElem?_set, List.length_take, List.length_set, List.length_cons, List.length_nil]
  by_cases h1 : j < k
  · rw [if_pos (by omega), if_pos h1, if_neg (by omega), if_neg (by omega)]
  · rw [if_neg (by omega)]
    by_cases h2 : j = k
    · subst h2
      rw [show j - min j c.length = 0 by omega]
      simp
      omega
    · by_cases h3 : j = k + 1
      · subst h3
        rw [show k + 1 - min k c.length = 1 by omega]
        simp
        omega
      · rw [if_neg (by omega), if_neg (by omega), if_neg (by omega)]
        congr 1
        omega
theorem put2 {c : List AV} {o i : Nat} {x y : NW} {a b : AV} (h : (c.drop o).take (W.length * 9) = flat encW W) (hx : W[i]? = some x) (hl : o + i * 9 + 9 ≤ c.length) (hy : encW y = ((encW x).set 5 a).set 6 b) :
    ((c.take (o + i * 9 + 5) ++ ([a, b] ++ c.drop (o + i * 9 + 5 + 2))).drop o).take (W.length * 9) = flat encW (W.set i y) ∧ (c.take (o + i * 9 + 5) ++ ([a, b] ++ c.drop (o + i * 9 + 5 + 2))).length = c.length := by
  have hi := lt_of_getW hx
  rw [set_two (by omega)]
  refine ⟨?_, by simp⟩
  have e1 := put1 (k := 5) (v := a) (y := (x.1, a, x.2.2)) h hx (by decide) rfl
  have hx2 : (W.set i (x.1, a, x.2.2))[i]? = some (x.1, a, x.2.2) := List.getElem?_set_self hi
  have e1' : ((c.set (o + i * 9 + 5) a).drop o).take ((W.set i (x.1, a, x.2.2)).length * 9) = flat encW (W.set i (x.1, a, x.2.2)) := by rw [List.length_set]; exact e1
  have e2 := put1 (k := 6) (v := b) (y := y) e1' hx2 (by decide) (by rw [hy]; rfl)
  rw [List.length_set, List.set_set] at e2
  exact e2
end
/-- The place of a node, or -1. -/
def atI (N : List Nd) (n : Int) : Int := match fnd N n with
  | some i => (i : Nat)
  | none => -1
theorem fnd_first : ∀ {N : List Nd} {n : Int} {i : Nat} {x : Nd}, N[i]? = some x → x.ino = n → (∀ (j : Nat) (y : Nd), j < i → N[j]? = some y → y.ino ≠ n) → fnd N n = some i
  | [], n, i, x, h, _, _ => by simp at h
  | y :: N, n, 0, x, h, e, _ => by
    simp at h; subst h
    simp [fnd, e]
  | y :: N, n, i + 1, x, h, e, hj => by
    have := fnd_first (N := N) (n := n) (i := i) (x := x) (by simpa using h) e fun j z hlt hz => hj (j + 1) z (by omega) (by simpa using hz)
    simp only [fnd]
    rw [if_neg (hj 0 y (by omega) (by simp)), this]
    rfl
theorem fnd_all : ∀ {N : List Nd} {n : Int}, (∀ x ∈ N, x.ino ≠ n) → fnd N n = none
  | [], n, _ => rfl
  | y :: N, n, h => by
    simp only [fnd]
    rw [if_neg (h y (by simp)), fnd_all fun x hx => h x (by simp [hx])]
    rfl
theorem At18_ok {H : Heap} {m : Nat} {slv : AV} {W : List NW} {next many blocks : Int} (h : TabW H m slv W next many blocks) (hl : W.length ≤ 100000) (n : Int) : Cl Try.prog pr06 18 [.ptr (some (m, 0)), .int .i64 n] H fun v H' => v = .int .i64 (atI (ndw W) n) ∧ H' = H := by
  have hg := h.g
  obtain ⟨va, cap, ex, hsl, hc, hex⟩ := h.own.form
  rw [hsl] at hg
  obtain ⟨L, hL⟩ : ∃ L, L = W.length := ⟨_, rfl⟩
  rw [← hL] at hg
  refine Cl.enter Try.func18 rfl rfl Try.ntmps18 (by simp) ?_
  refine walk none0 ?_
  refine Wq.loop (fun k e H' => ∃ i : Nat, i ≤ L ∧ k = L - i ∧ H' = H ∧ e 0 = .ptr (some (m, 0)) ∧ e 1 = .int .i64 n ∧ e 5 = .int .i64 i ∧ ∀ (j : Nat) (y : Nd), j < i → (ndw W)[j]? = some y → y.ino ≠ n) L ?_ ?_
  · exact ⟨0, by omega, by omega, rfl, by simp, by simp, by simp, fun j y hj => by omega⟩
  · rintro k e H' ⟨i, hi, rfl, rfl, g0, g1, g5, hfi⟩
    by_cases hlt : i < L
    · have hltI : (i : Int) < L := by omega
      obtain ⟨w, hw⟩ : ∃ w, W[i]? = some w := ⟨W[i], by simp [show i < W.length by omega]⟩
      obtain ⟨b, o, cap', ex', c, e1, _, _, _, q2, _, q4, _, q6⟩ := h.node hw
      rw [hsl] at e1
      injection e1 with e1 _ e2 e3
      subst e1; subst e2; subst e3
      have q7 : c[o + i * 9]? = some (.int .i64 w.1.ino) := q6 0 (by decide)
      have q8 : o + i * 9 < c.length := by omega
      by_cases he : w.1.ino = n
      · have hf := fnd_first (ndw_get hw) he hfi
        refine walk (both g0 (both g1 (both g5 (both hg (both hlt (both hltI (both q2 (both q7 (both q8 he))))))))) ?_
        exact ⟨by simp [atI, hf], rfl⟩
      · refine walk (both g0 (both g1 (both g5 (both hg (both hlt (both hltI (both q2 (both q7 (both q8 he))))))))) ?_
        refine Roundq.normal (L - (i + 1)) (by omega) ⟨i + 1, by omega, rfl, rfl, by simp [g0], by simp [g1], by simp, fun j y hj hy => ?_⟩
        rcases Nat.lt_or_ge j i with g | g
        · exact hfi j y g hy
        · obtain rfl : j = i := by omega
          rw [ndw_get hw] at hy
          injection hy with hy
          rw [← hy]
          exact he
    · obtain rfl : i = L := by omega
      have hltI : ¬ (i : Int) < i := by omega
      have hf : fnd (ndw W) n = none := fnd_all fun x hx => by
        obtain ⟨j, hj⟩ := List.mem_iff_getElem?.1 hx
        have := lt_of_getW hj
        rw [ndw_len] at this
        exact hfi j x (by omega) hj
      refine walk (both g0 (both g1 (both g5 hg))) ?_
      exact ⟨by simp [atI, hf], rfl⟩
end Go.Abs

/- Chapter 06: what the reference tells, walked. -/
namespace Go.Abs
open Go.Proofs
set_option maxRecDepth 100000
set_option linter.unusedVariables false
set_option linter.unusedSimpArgs false

theorem usedN_take {N : List Nd} {i : Nat} {x : Nd} (h : N[i]? = some x) : usedN (N.take (i + 1)) = usedN (N.take i) + x.Has.count true := by
  rw [List.take_add_one, h, usedN_app]
  simp [usedN]
theorem usedN_le {N : List Nd} (i : Nat) : usedN (N.take i) ≤ usedN N := by
  conv => rhs; rw [← List.take_append_drop i N, usedN_app]
  omega
theorem two_of {cc : List AV} {o i : Nat} {w : NW} (hl : o + i * 9 + 9 ≤ cc.length) (q6 : ∀ k, k < 9 → cc[o + i * 9 + k]? = (encW w)[k]?) : List.take 2 (List.drop (o + i * 9 + 5) cc) = [w.2.1, w.2.2] := by
  have q7 : cc[o + i * 9 + 5]? = some w.2.1 := q6 5 (by decide)
  have q8 : cc[o + i * 9 + 6]? = some w.2.2 := q6 6 (by decide)
  apply List.ext_getElem?
  intro k
  by_cases hk : k < 2
  · rw [List.getElem?_take_of_lt hk, List.getElem?_drop]
    match k, hk with
    | 0, _ => exact q7
    | 1, _ => exact q8
  · rw [List.getElem?_take_eq_none (by omega), List.getElem?_eq_none (by simp; omega)]
theorem nine_of {cc : List AV} {o i : Nat} {w : NW} (hl : o + i * 9 + 9 ≤ cc.length) (q6 : ∀ k, k < 9 → cc[o + i * 9 + k]? = (encW w)[k]?) : List.take 9 (List.drop (o + i * 9) cc) = encW w := by
  apply List.ext_getElem?
  intro k
  by_cases hk : k < 9
  · rw [List.getElem?_take_of_lt hk, List.getElem?_drop]
    exact q6 k hk
  · rw [List.getElem?_take_eq_none (by omega), List.getElem?_eq_none (by simp; omega)]
theorem Sl.zero {H : Heap} {s : Nat} {a : Nat × Nat} : Sl H s (.slice (some a) 0 0 none) 0 [] := by
  unfold Sl
  exact ⟨by simp, .inr ⟨a.1, a.2, 0, none, rfl, Nat.le_refl _, .inl rfl, fun h => by omega⟩⟩
theorem live_zero {H : Heap} {t : TypeId} : LiveS (H.push (.cells [] t true false)) (.slice (some (H.next, 0)) 0 0 none) := by
  intro b o n c x e
  simp only [AV.slice.injEq, Option.some.injEq, Prod.mk.injEq] at e
  obtain ⟨⟨rfl, rfl⟩, rfl, rfl, rfl⟩ := e
  exact ⟨by simp, [], t, true, false, by simp, by simp⟩
section
variable {H : Heap} {m : Nat} {slv : AV} {W : List NW} {next many blocks : Int} {c : Nat}
theorem Room43_ok (h : RefS H m slv W next many blocks) (f : Fine (ndw W) next many blocks c) : Cl Try.prog pr06 43 [.ptr (some (m, 0))] H fun v H' => v = .tuple [.int .i64 (many - W.length), .int .i64 (blocks - usedN (ndw W))] ∧ Keep H H' := by
  have hg := h.tab.g
  have hfew := f.few
  have hmb := f.mb
  have hbb := f.bb
  have hus := f.us
  rw [ndw_len] at hfew
  obtain ⟨va, cap, ex, hsl, hc, hex⟩ := h.tab.own.form
  obtain ⟨L, hL⟩ : ∃ L, L = W.length := ⟨_, rfl⟩
  rw [hsl, ← hL] at hg
  refine Cl.enter Try.func43 rfl rfl Try.ntmps43 (by simp) ?_
  refine walk hg ?_
  refine Wq.loop (fun k e H' => ∃ i : Nat, i ≤ L ∧ k = L - i ∧ Keep H H' ∧ e 0 = .ptr (some (m, 0)) ∧ e 4 = .int .i64 (blocks - usedN ((ndw W).take i)) ∧ e 5 = .int .i64 i) L ?_ ?_
  · exact ⟨0, by omega, by omega, Upd.rfl, by simp, by simp [usedN], by simp⟩
  · rintro k e H' ⟨i, hi, rfl, hK, g0, g4, g5⟩
    have hg' := (hK.get h.tab.lt).trans hg
    by_cases hlt : i < L
    · have hltI : (i : Int) < L := by omega
      obtain ⟨w, hw⟩ : ∃ w, W[i]? = some w := ⟨W[i], by simp [show i < W.length by omega]⟩
      have hR := h.kept hK
      obtain ⟨b, o, cap', ex', cc, e1, _, _, _, q2, _, q4, _, q6⟩ := hR.tab.node hw
      rw [hsl] at e1
      injection e1 with e1 _ e2 e3
      subst e1; subst e2; subst e3
      have q7 : cc[o + i * 9 + 5]? = some w.2.1 := q6 5 (by decide)
      have q8 : cc[o + i * 9 + 5 + 1]? = some w.2.2 := q6 6 (by decide)
      have q9 : o + i * 9 + 5 < cc.length := by omega
      have q10 : o + i * 9 + 5 + 1 < cc.length := by omega
      have hB := f.by' w.1 (List.mem_of_getElem? (ndw_get hw))
      have hu := usedN_take (ndw_get hw)
      have hle := usedN_le (N := ndw W) (i + 1)
      have hcl : w.1.Has.count true ≤ w.1.Has.length := List.count_le_length
      have q11 := two_of q4 q6
      refine walk (both g0 (both g4 (both g5 (both hg' (both hlt (both hltI (both q2 (both q9 q11)))))))) ?_
      refine (rblocks_ok w.1.B w.1.Has (by omega) _ _ (hR.rf i w hw)).mono fun v H2 _ ⟨ea, kb⟩ => ?_
      subst ea
      refine walk (both g0 (both g4 g5)) ?_
      exact Roundq.normal (L - (i + 1)) (by omega) ⟨i + 1, by omega, rfl, hK.then kb, by simp [g0], by simp [g4]; omega, by simp [g5]⟩
    · obtain rfl : i = L := by omega
      have hltI : ¬ (i : Int) < i := by omega
      have htk : (ndw W).take i = ndw W := List.take_of_length_le (by rw [ndw_len]; omega)
      rw [htk] at g4
      refine walk (both g0 (both g4 (both g5 hg'))) ?_
      refine Wq.regionD [0, 1, 2, 3, 4, 5, 6, 7, 8, 9, 10, 11, 12] (by kernel_rfl) ?_
      refine walk (both g0 (both g4 (both g5 hg'))) ?_
      exact ⟨by rw [hL], hK⟩
/-- A file's place, or why it is none. -/
theorem file46_no (h : TabW H m slv W next many blocks) (hl : W.length ≤ 100000) {n : Int} (hn : ∀ x ∈ ndw W, x.ino ≠ n) : Cl Try.prog pr06 46 [.ptr (some (m, 0)), .int .i64 n] H fun v H' => v = .tuple [.int .i64 0, .int .i64 2] ∧ H' = H := by
  have ha : atI (ndw W) n = -1 := by simp [atI, fnd_all hn]
  refine Cl.enter Try.func46 rfl rfl Try.ntmps46 (by simp) ?_
  refine walk none0 ?_
  refine (At18_ok h hl n).mono fun v H1 _ ⟨ea, eb⟩ => ?_
  rw [ha] at ea
  subst ea; subst eb
  refine walk none0 ?_
  exact ⟨rfl, rfl⟩
theorem atI_yes {N : List Nd} (f : Fine N next many blocks c) {i : Nat} {x : Nd} (hx : N[i]? = some x) : atI N x.ino = i := by simp [atI, fnd_at f hx]
theorem file46_yes (h : TabW H m slv W next many blocks) (f : Fine (ndw W) next many blocks c) {i : Nat} {w : NW} (hw : W[i]? = some w) : Cl Try.prog pr06 46 [.ptr (some (m, 0)), .int .i64 w.1.ino] H fun v H' => v = .tuple [.int .i64 (if w.1.kind = 1 then i else 0), .int .i64 (if w.1.kind = 1 then 0 else 22)] ∧ H' = H := by
  have hfew := f.few
  have hmb := f.mb
  rw [ndw_len] at hfew
  have ha := atI_yes f (ndw_get hw)
  have hg := h.g
  obtain ⟨b, o, cap, ex, cc, rfl, _, _, _, q2, _, q4, _, q6⟩ := h.node hw
  have q7 : cc[o + i * 9 + 1]? = some (.int .i64 w.1.kind) := q6 1 (by decide)
  have q9 : o + i * 9 + 1 < cc.length := by omega
  have hiW := lt_of_getW hw
  have hiI : (i : Int) < W.length := by omega
  refine Cl.enter Try.func46 rfl rfl Try.ntmps46 (by simp) ?_
  refine walk none0 ?_
  refine (At18_ok h (by omega) w.1.ino).mono fun v H1 _ ⟨ea, eb⟩ => ?_
  rw [ha] at ea
  subst ea; subst eb
  by_cases hk : w.1.kind = 1
  · simp only [if_pos hk]
    refine walk (both hg (both q2 (both q7 (both q9 (both hiW (both hiI hk)))))) ?_
    exact ⟨rfl, rfl⟩
  · simp only [if_neg hk]
    refine walk (both hg (both q2 (both q7 (both q9 (both hiW (both hiI hk)))))) ?_
    exact ⟨rfl, rfl⟩
theorem Read16_no (h : TabW H m slv W next many blocks) (hl : W.length ≤ 100000) {n : Int} (off k : Int) (hn : ∀ x ∈ ndw W, x.ino ≠ n) : Cl Try.prog pr06 16 [.ptr (some (m, 0)), .int .i64 n, .int .i64 off, .int .i64 k] H fun v H' => ∃ u, v = .tuple [u, .int .i64 2] ∧ Keep H H' ∧ Sl H' 1 u 0 [] ∧ LiveS H' u := by
  refine Cl.enter Try.func16 rfl rfl Try.ntmps16 (by simp) ?_
  refine walk none0 ?_
  refine (file46_no h hl hn).mono fun v H1 _ ⟨ea, eb⟩ => ?_
  subst ea; subst eb
  refine walk none0 ?_
  exact ⟨_, rfl, Upd.rfl.push _, Sl.zero, live_zero⟩
theorem Read16_yes (h : RefS H m slv W next many blocks) (f : Fine (ndw W) next many blocks c) {i : Nat} {w : NW} (hw : W[i]? = some w) (off k : Int) (ho : i64 off) (hk : i64 k) : Cl Try.prog pr06 16 [.ptr (some (m, 0)), .int .i64 w.1.ino, .int .i64 off, .int .i64 k] H fun v H' =>
    ∃ u, v = .tuple [u, .int .i64 (if w.1.kind = 1 then 0 else 22)] ∧ Keep H H' ∧ Sl H' 1 u (if w.1.kind = 1 then rdB w.1.B off k else []).length (cellsOfBytes (if w.1.kind = 1 then rdB w.1.B off k else [])) ∧ LiveS H' u := by
  have hB := f.by' w.1 (List.mem_of_getElem? (ndw_get hw))
  have hg := h.tab.g
  have hnode := h.tab.node hw
  obtain ⟨b, o, cap, ex, cc, rfl, _, _, _, q2, _, q4, _, q6⟩ := hnode
  have q7 : cc[o + i * 9 + 5]? = some w.2.1 := q6 5 (by decide)
  have q8 : cc[o + i * 9 + 5 + 1]? = some w.2.2 := q6 6 (by decide)
  have q9 : o + i * 9 + 5 < cc.length := by omega
  have q10 : o + i * 9 + 5 + 1 < cc.length := by omega
  have hiW := lt_of_getW hw
  have hiI : (i : Int) < W.length := by omega
  refine Cl.enter Try.func16 rfl rfl Try.ntmps16 (by simp) ?_
  refine walk none0 ?_
  refine (file46_yes h.tab f hw).mono fun v H1 _ ⟨ea, eb⟩ => ?_
  subst ea; subst eb
  by_cases hk1 : w.1.kind = 1
  · simp only [if_pos hk1]
    have q11 := two_of q4 q6
    refine walk (both hg (both q2 (both q9 (both q11 (both hiW hiI))))) ?_
    refine (rread_ok w.1.B w.1.Has hB.1 off k ho hk _ _ (h.rf i w hw)).mono fun v H2 _ fF => ?_
    have hS := fF.own.sl
    have hLv := fF.own.live
    have hkp := fF.keep
    clear fF
    refine walk none0 ?_
    exact ⟨_, rfl, hkp, hS, hLv⟩
  · simp only [if_neg hk1]
    refine walk none0 ?_
    exact ⟨_, rfl, Upd.rfl.push _, Sl.zero, live_zero⟩
theorem Stat41_no (h : TabW H m slv W next many blocks) (hl : W.length ≤ 100000) {n : Int} (hn : ∀ x ∈ ndw W, x.ino ≠ n) : Cl Try.prog pr06 41 [.ptr (some (m, 0)), .int .i64 n] H fun v H' => v = .tuple [stat0, .int .i64 2] ∧ Keep H H' := by
  have ha : atI (ndw W) n = -1 := by simp [atI, fnd_all hn]
  have gT : (H.push (.cells [.int .i64 0, .int .i64 0, .int .i64 0, .int .i64 0, .int .i64 0] 41 true false)).get H.next = some (.cells [.int .i64 0, .int .i64 0, .int .i64 0, .int .i64 0, .int .i64 0] 41 true false) := by simp
  have nT : H.next < (H.push (.cells [.int .i64 0, .int .i64 0, .int .i64 0, .int .i64 0, .int .i64 0] 41 true false)).next := by simp
  have kT : Keep H (H.push (.cells [.int .i64 0, .int .i64 0, .int .i64 0, .int .i64 0, .int .i64 0] 41 true false)) := Upd.rfl.push _
  refine Cl.enter Try.func41 rfl rfl Try.ntmps41 (by simp) ?_
  refine walk none0 ?_
  generalize H.push (.cells [.int .i64 0, .int .i64 0, .int .i64 0, .int .i64 0, .int .i64 0] 41 true false) = H1 at *
  refine (At18_ok (h.kept kT) hl n).mono fun v H2 _ ⟨ea, eb⟩ => ?_
  rw [ha] at ea
  subst ea; subst eb
  refine walk gT ?_
  exact ⟨rfl, kT.set _ nT (by omega)⟩
theorem Stat41_yes (h : RefS H m slv W next many blocks) (f : Fine (ndw W) next many blocks c) {i : Nat} {w : NW} (hw : W[i]? = some w) : Cl Try.prog pr06 41 [.ptr (some (m, 0)), .int .i64 w.1.ino] H fun v H' => v = .tuple [statT w.1, .int .i64 0] ∧ Keep H H' := by
  have gT : (H.push (.cells [.int .i64 0, .int .i64 0, .int .i64 0, .int .i64 0, .int .i64 0] 41 true false)).get H.next = some (.cells [.int .i64 0, .int .i64 0, .int .i64 0, .int .i64 0, .int .i64 0] 41 true false) := by simp
  have nT : H.next < (H.push (.cells [.int .i64 0, .int .i64 0, .int .i64 0, .int .i64 0, .int .i64 0] 41 true false)).next := by simp
  have kT : Keep H (H.push (.cells [.int .i64 0, .int .i64 0, .int .i64 0, .int .i64 0, .int .i64 0] 41 true false)) := Upd.rfl.push _
  have hm := List.mem_of_getElem? (ndw_get hw)
  have hB := f.by' w.1 hm
  have ht := f.tg w.1 hm
  have hfew := f.few
  have hmb := f.mb
  rw [ndw_len] at hfew
  have ha := atI_yes f (ndw_get hw)
  have hiW := lt_of_getW hw
  have hiI : (i : Int) < W.length := by omega
  refine Cl.enter Try.func41 rfl rfl Try.ntmps41 (by simp) ?_
  refine walk none0 ?_
  generalize H.push (.cells [.int .i64 0, .int .i64 0, .int .i64 0, .int .i64 0, .int .i64 0] 41 true false) = H1 at *
  have h1 := h.kept kT
  refine (At18_ok h1.tab (by omega) w.1.ino).mono fun v H2 _ ⟨ea, eb⟩ => ?_
  rw [ha] at ea
  subst ea; subst eb
  have hg := h1.tab.g
  have hrf := h1.rf i w hw
  obtain ⟨b, o, cap, ex, cc, rfl, _, _, _, q2, _, q4, _, q6⟩ := h1.tab.node hw
  obtain ⟨x, s1, s2⟩ := w
  have q11 := nine_of q4 q6
  have q9 : o + i * 9 < cc.length := by omega
  have q12 : o + i * 9 + 9 ≤ cc.length := q4
  obtain ⟨a, c1, x1, a', c', x', e, r1, r2, r3⟩ := id hrf
  simp only [AV.agg.injEq, List.cons.injEq, and_true] at e
  obtain ⟨rfl, rfl⟩ := e
  simp only [encW] at *
  refine walk (both hg (both q2 (both q11 (both q9 (both q12 (both hiW hiI)))))) ?_
  have kX : Keep H2 ((H2.push (.cells [.int .i64 0, .int .i64 0, .int .i64 0, .int .i64 0, .int .i64 0, .slice none 0 0 none, .slice none 0 0 none, .str [], .slice none 0 0 none] 59 true false)).set H2.next (.cells [.int .i64 x.ino, .int .i64 x.kind, .int .i64 x.links, .int .i64 x.holds, .int .i64 0, .slice a x.B.length c1 x1, .slice a' x.Has.length c' x', .str x.tgt, .slice none 0 0 none] 59 true false)) := (Upd.rfl.push _).set _ (by simp) (by omega)
  have gY : ((H2.push (.cells [.int .i64 0, .int .i64 0, .int .i64 0, .int .i64 0, .int .i64 0, .slice none 0 0 none, .slice none 0 0 none, .str [], .slice none 0 0 none] 59 true false)).set H2.next (.cells [.int .i64 x.ino, .int .i64 x.kind, .int .i64 x.links, .int .i64 x.holds, .int .i64 0, .slice a x.B.length c1 x1, .slice a' x.Has.length c' x', .str x.tgt, .slice none 0 0 none] 59 true false)).get H2.next = some (.cells [.int .i64 x.ino, .int .i64 x.kind, .int .i64 x.links, .int .i64 x.holds, .int .i64 0, .slice a x.B.length c1 x1, .slice a' x.Has.length c' x', .str x.tgt, .slice none 0 0 none] 59 true false) := Heap.get_set_same _ _ _
  have nX : H2.next < ((H2.push (.cells [.int .i64 0, .int .i64 0, .int .i64 0, .int .i64 0, .int .i64 0, .slice none 0 0 none, .slice none 0 0 none, .str [], .slice none 0 0 none] 59 true false)).set H2.next (.cells [.int .i64 x.ino, .int .i64 x.kind, .int .i64 x.links, .int .i64 x.holds, .int .i64 0, .slice a x.B.length c1 x1, .slice a' x.Has.length c' x', .str x.tgt, .slice none 0 0 none] 59 true false)).next := by simp
  generalize ((H2.push (.cells [.int .i64 0, .int .i64 0, .int .i64 0, .int .i64 0, .int .i64 0, .slice none 0 0 none, .slice none 0 0 none, .str [], .slice none 0 0 none] 59 true false)).set H2.next (.cells [.int .i64 x.ino, .int .i64 x.kind, .int .i64 x.links, .int .i64 x.holds, .int .i64 0, .slice a x.B.length c1 x1, .slice a' x.Has.length c' x', .str x.tgt, .slice none 0 0 none] 59 true false)) = H3 at *
  have gT3 := (kX.get nT).trans gT
  have hrf3 := hrf.kept kX
  refine walk gY ?_
  refine Wq.regionM [(18, 0), (19, 0), (20, 0), (0, 0), (1, 2), (2, 0), (3, 0), (4, 2), (5, 0), (6, 0), (7, 2), (8, 0), (9, 0), (10, 0), (11, 2), (12, 0), (13, 0), (14, 0), (15, 2), (16, 0), (17, 2), (21, 0), (22, 0), (23, 0)] (by kernel_rfl) ?_
  refine mwalk gY ?_
  refine (rblocks_ok x.B x.Has (by omega) _ _ hrf3).mono fun v H4 _ ⟨ea, kb⟩ => ?_
  subst ea
  have gT4 := (kb.get (by have := kX.next; omega)).trans gT3
  have gY4 := (kb.get nX).trans gY
  refine mwalk (both gY (both gY4 gT4)) ?_
  refine walk gT4 ?_
  exact ⟨by simp [statT], ((kT.then kX).then kb).set _ (by have := kX.next; have := kb.next; omega) (by omega)⟩
end
end Go.Abs

/- Chapter 06: the reference's Make, walked. -/
namespace Go.Abs
open Go.Proofs
set_option maxRecDepth 100000
set_option linter.unusedVariables false
set_option linter.unusedSimpArgs false

/-- The array's block is the one that it was, or new. -/
abbrev Fro (H : Heap) (slv slv' : AV) : Prop := ∀ z, slBlock slv' = some z → slBlock slv = some z ∨ H.next ≤ z
theorem flatW_snoc (l : List NW) (x : NW) : flat encW (l ++ [x]) = flat encW l ++ encW x := by simp [flat]
theorem TabW.grow {H H1 H2 : Heap} {m : Nat} {slv v' : AV} {W : List NW} {next many blocks : Int} {x : NW} (h : TabW H m slv W next many blocks) (kk : Keep H H1) (o : OwnG H2 59 9 v' (W.length + 1) (flat encW W ++ encW x)) (b : ButOne (slBlock slv) H1 H2) (hs : slBlock v' = slBlock slv ∨ slBlock v' = some H1.next) (next' : Int) :
    H2.get m = some (.cells [slv, .int .i64 next, .int .i64 many, .int .i64 blocks] 32 true false) ∧ m < H2.next ∧ Fro H slv v' ∧ ∀ H3, H3.get m = some (.cells [v', .int .i64 next', .int .i64 many, .int .i64 blocks] 32 true false) → Upd (fun z => z = m) H2 H3 → TabW H3 m v' (W ++ [x]) next' many blocks ∧ Upd (tabR m slv) H H3 := by
  have hk := kk.next
  have hb := b.1
  have hp := h.lt
  have hap := h.ap
  have hg : H2.get m = some (.cells [slv, .int .i64 next, .int .i64 many, .int .i64 blocks] 32 true false) := by
    rw [b.2.2 m (by omega) (fun e => hap e.symm), kk.get hp]; exact h.g
  have hvp : slBlock v' ≠ some m := by
    rcases hs with e | e
    · rw [e]; exact hap
    · rw [e]; intro e; injection e with e; omega
  have u : Upd (tabR m slv) H H2 := (Upd.of kk).butOne b fun z hz _ => .inr hz
  refine ⟨hg, by omega, fun z hz => ?_, fun H3 h3 u3 => ⟨⟨h3, ?_, hvp, fun z hz => ?_, by have := u3.1; omega⟩, u.trans u3 fun z _ h => .inl h⟩⟩
  · rcases hs with e | e
    · exact .inl (e ▸ hz)
    · rw [e] at hz; injection hz with hz; exact .inr (by omega)
  · rw [List.length_append, flatW_snoc]
    exact o.keep (by have := u3.1; omega) fun z hz hlt => u3.keep z hlt (fun e => hvp (by rw [← e]; exact hz))
  · obtain ⟨a, cap, ex, rfl, _⟩ := o.form
    obtain ⟨b', o', c', e, _, _, hl, _⟩ := o.at (by omega)
    subst e
    have := u3.1
    simp [slBlock] at hz; subst hz; omega
section
variable {H H' : Heap} {m : Nat} {slv slv' : AV} {W : List NW} {next next' many blocks : Int} {c : Nat}
/-- The list turned; each node's bytes are as they were, or new. -/
theorem RefS.turn {W' : List NW} (h : RefS H m slv W next many blocks) (t : TabW H' m slv' W' next' many blocks) (u : Upd (tabR m slv) H H') (hf : Fro H slv slv')
    (hw : ∀ (j : Nat) (w : NW), W'[j]? = some w → (∃ (k : Nat) (x : Nd), W[k]? = some (x, w.2.1, w.2.2) ∧ x.B = w.1.B ∧ x.Has = w.1.Has) ∨ (RefR H' (.agg [w.2.1, w.2.2]) w.1.B w.1.Has ∧ ∀ z, blkOf (.agg [w.2.1, w.2.2]) z → z < H'.next ∧ z ≠ m ∧ slBlock slv' ≠ some z)) : RefS H' m slv' W' next' many blocks := by
  have hn := u.next
  refine ⟨t, fun j w hj => ?_, fun j w hj z hz => ?_⟩
  · rcases hw j w hj with ⟨k, x, hk, e1, e2⟩ | ⟨g, _⟩
    · have := (h.rf k _ hk).upd u fun z hz hc => by
        obtain ⟨_, g2, g3⟩ := h.fb k _ hk z hz
        rcases hc with g | g
        · exact g2 g
        · exact g3 g
      rw [← e1, ← e2]
      exact this
    · exact g
  · rcases hw j w hj with ⟨k, x, hk, _⟩ | ⟨_, g⟩
    · obtain ⟨g1, g2, g3⟩ := h.fb k _ hk z hz
      refine ⟨by omega, g2, fun e => ?_⟩
      rcases hf z e with g | g
      · exact g3 g
      · omega
    · exact g z hz
/-- What may be the run's own afterwards. -/
theorem footR_turn {n : Nat} {W' : List NW} (hf : ∀ z, slBlock slv' = some z → slBlock slv = some z ∨ n ≤ z) (hw : ∀ (j : Nat) (w : NW), W'[j]? = some w → (∃ (k : Nat) (x : Nd), W[k]? = some (x, w.2.1, w.2.2)) ∨ ∀ z, blkOf (.agg [w.2.1, w.2.2]) z → footR m slv W z ∨ n ≤ z) : ∀ z, footR m slv' W' z → footR m slv W z ∨ n ≤ z := by
  rintro z (rfl | hz | ⟨j, w, hj, hz⟩)
  · exact .inl (.inl rfl)
  · rcases hf z hz with g | g
    · exact .inl (.inr (.inl g))
    · exact .inr g
  · rcases hw j w hj with ⟨k, x, hk⟩ | g
    · exact .inl (.inr (.inr ⟨k, _, hk, hz⟩))
    · exact g z hz
theorem refR_nil (H : Heap) : RefR H (.agg [.slice none 0 0 none, .slice none 0 0 none]) [] [] := ⟨none, 0, none, none, 0, none, rfl, Sl.nil, Sl.nil, fun b o n c x e => by cases e⟩
theorem blkOf_nil (z : Nat) : ¬ blkOf (.agg [.slice none 0 0 none, .slice none 0 0 none]) z := by
  rintro ⟨y, hy, hz⟩
  simp at hy
  subst hy
  simp [slBlock] at hz
def newNW (next k : Int) (t : List UInt8) : NW := (newNd next k t, .slice none 0 0 none, .slice none 0 0 none)
theorem Make31_ok (h : RefS H m slv W next many blocks) (f : Fine (ndw W) next many blocks c) (k : Int) (t : List UInt8) (ht : t.length ≤ 100000) : Cl Try.prog pr06 31 [.ptr (some (m, 0)), .int .i64 k, .str t] H fun v H' =>
    ((wrongE k t ≠ 0 ∨ many ≤ (W.length : Int)) ∧ v = .tuple [.int .i64 0, .int .i64 (if wrongE k t ≠ 0 then wrongE k t else 28)] ∧ H' = H) ∨
    (wrongE k t = 0 ∧ (W.length : Int) < many ∧ v = .tuple [.int .i64 next, .int .i64 0] ∧ ∃ slv', RefS H' m slv' (W ++ [newNW next k t]) (next + 1) many blocks ∧ Upd (tabR m slv) H H' ∧ ∀ z, footR m slv' (W ++ [newNW next k t]) z → footR m slv W z ∨ H.next ≤ z) := by
  have hg := h.tab.g
  have hnx := f.nx
  have hcc := f.cc
  have hfew := f.few
  have hmb := f.mb
  rw [ndw_len] at hfew
  obtain ⟨a, cap, ex, rfl, hc, hex⟩ := h.tab.own.form
  refine Cl.enter Try.func31 rfl rfl Try.ntmps31 (by simp) ?_
  by_cases h1 : k < 1
  · have hw : wrongE k t = 22 := by unfold wrongE; rw [if_neg (by omega), if_neg (by omega)]
    refine walk h1 ?_
    exact .inl ⟨.inl (by rw [hw]; decide), by rw [hw]; rfl, rfl⟩
  · by_cases h2 : 4 < k
    · have hw : wrongE k t = 22 := by unfold wrongE; rw [if_neg (by omega), if_neg (by omega)]
      refine walk (both h1 h2) ?_
      exact .inl ⟨.inl (by rw [hw]; decide), by rw [hw]; rfl, rfl⟩
    · by_cases h3 : k = 3
      · subst h3
        by_cases h0 : t = []
        · subst h0
          have hw : wrongE 3 [] = 2 := rfl
          refine walk none0 ?_
          exact .inl ⟨.inl (by rw [hw]; decide), by rw [hw]; rfl, rfl⟩
        · by_cases hl : 256 < t.length
          · have hlI : 256 < (t.length : Int) := by omega
            have hw : wrongE 3 t = 63 := by unfold wrongE; rw [if_pos rfl, if_neg h0, if_pos hl]
            refine walk (both h0 hlI) ?_
            exact .inl ⟨.inl (by rw [hw]; decide), by rw [hw]; rfl, rfl⟩
          · have hlI : ¬ 256 < (t.length : Int) := by omega
            refine walk (both h0 hlI) ?_
            obtain ⟨L, hL⟩ : ∃ L, L = t.length := ⟨_, rfl⟩
            refine Wq.loop (fun q e H' => ∃ i : Nat, i ≤ L ∧ q = L - i ∧ H' = H ∧ e 0 = .ptr (some (m, 0)) ∧ e 1 = .int .i64 3 ∧ e 2 = .str t ∧ e 8 = .int .i64 i ∧ ∀ j < i, t[j]? ≠ some 0) L ?_ ?_
            · exact ⟨0, by omega, by omega, rfl, by simp, by simp, by simp, by simp, fun j hj => by omega⟩
            · rintro q e H' ⟨i, hi, rfl, rfl, g0, g1, g2, g8, hfi⟩
              by_cases hlt : i < L
              · have hltI : (i : Int) < t.length := by omega
                have hlt' : i < t.length := by omega
                obtain ⟨b, hb⟩ : ∃ b, t[i]? = some b := ⟨t[i], by simp [hlt']⟩
                by_cases hz : b = 0
                · subst hz
                  have hmem : (0 : UInt8) ∈ t := List.mem_of_getElem? hb
                  have hw : wrongE 3 t = 22 := by unfold wrongE; rw [if_pos rfl, if_neg h0, if_neg hl, if_pos hmem]
                  refine walk (both g0 (both g1 (both g2 (both g8 (both hltI (both hlt' hb)))))) ?_
                  exact .inl ⟨.inl (by rw [hw]; decide), by rw [hw]; rfl, rfl⟩
                · have hbz : ¬ ((b.toNat : Int) = 0) := fun e => hz (by
                    have e' : b.toNat = 0 := by omega
                    exact UInt8.toNat_inj.1 (by simpa using e'))
                  refine walk (both g0 (both g1 (both g2 (both g8 (both hltI (both hlt' (both hb hbz))))))) ?_
                  refine Roundq.normal (L - (i + 1)) (by omega) ⟨i + 1, by omega, rfl, rfl, by simp [g0], by simp [g1], by simp [g2], by simp, fun j hj => ?_⟩
                  rcases Nat.lt_or_ge j i with g | g
                  · exact hfi j g
                  · obtain rfl : j = i := by omega
                    rw [hb]
                    exact fun e => hz (by injection e)
              · obtain rfl : i = L := by omega
                have hltI : ¬ (i : Int) < t.length := by omega
                have hno : (0 : UInt8) ∉ t := fun hc => by
                  obtain ⟨j, hj⟩ := List.mem_iff_getElem?.1 hc
                  exact hfi j (by have := (List.getElem?_eq_some_iff.1 hj).1; omega) hj
                have hw : wrongE 3 t = 0 := by unfold wrongE; rw [if_pos rfl, if_neg h0, if_neg hl, if_neg hno]
                refine walk (both g0 (both g1 (both g2 (both g8 hltI)))) ?_
                refine Wq.regionD [0, 1, 2, 3, 4, 5, 6, 7, 8, 9] (by kernel_rfl) ?_
                by_cases hfull : many ≤ (W.length : Int)
                · refine walk (both g0 (both g1 (both g2 (both g8 (both hg hfull))))) ?_
                  exact .inl ⟨.inr hfull, by rw [if_neg (by rw [hw]; decide)], rfl⟩
                · refine walk (both g0 (both g1 (both g2 (both g8 (both hg hfull))))) ?_
                  refine Wq.regionD [1, 2, 3, 4, 5, 6, 7, 8, 9, 10, 11, 12, 13, 0, 14, 15, 16] (by kernel_rfl) ?_
                  refine walk (both g0 (both g1 (both g2 (both g8 hg)))) ?_
                  have kk : Keep H' (H'.push (.cells (encW (newNW next 3 t)) 59 true false)) := Upd.rfl.push _
                  refine Oq.appendG (own := (h.tab.own.kept kk)) (new := (encW (newNW next 3 t))) (m := 1) (by simp (disch := omega) [g0, g1, g2, g8, encW, newNW, newNd, -getElem?_pos, wrapI64, tdivN, tmodN, ipos, ineg, dpos, dneg, slc_l, slc_h, slc_lh, slc_hm, slc_lhm, slc_0, slcR_some, slcR_none, cutS_ok, cutA_ok, byteAt_ok]; first | done | (repeat' (first | rfl | apply And.intro))) ⟨_, rfl, by simp; first | done | (repeat' (first | rfl | apply And.intro))⟩ rfl (by kernel_rfl) (by kernel_rfl) (by refine ⟨by simp, ?_⟩; simp (disch := omega) [srcCells, cellsAt, g0, g1, g2, g8, encW, newNW, newNd, -getElem?_pos, wrapI64, tdivN, tmodN, ipos, ineg, dpos, dneg, slc_l, slc_h, slc_lh, slc_hm, slc_lhm, slc_0, slcR_some, slcR_none, cutS_ok, cutA_ok, byteAt_ok]; first | done | rfl) rfl rfl (by omega) (by omega) fun w1 H2 o1 b1 s1 => ?_
                  obtain ⟨q1, q2, q3, q4⟩ := h.tab.grow kk o1 b1 s1 (next + 1)
                  obtain ⟨wa, wc, wx, rfl, _⟩ := o1.form
                  refine walk (both g0 q1) ?_
                  obtain ⟨r1, r2⟩ := q4 _ (Heap.get_set_same _ _ _) (((Upd.rfl (fp := fun z => z = m)).set _ q2 fun _ => rfl).set _ (by simpa using q2) fun _ => rfl)
                  refine .inr ⟨hw, by omega, rfl, _, h.turn r1 r2 q3 fun j w hj => ?_, r2, footR_turn q3 fun j w hj => ?_⟩
                  all_goals
                    by_cases hjl : j < W.length
                    · rw [List.getElem?_append_left hjl] at hj
                      first | exact .inl ⟨j, w.1, hj, rfl, rfl⟩ | exact .inl ⟨j, w.1, hj⟩
                    · rw [List.getElem?_append_right (by omega)] at hj
                      have hj1 := lt_of_getW hj
                      simp at hj1
                      rw [show j - W.length = 0 by omega] at hj
                      simp at hj
                      subst hj
                      first | exact .inr ⟨refR_nil _, fun z hz => absurd hz (blkOf_nil z)⟩ | exact .inr fun z hz => absurd hz (blkOf_nil z)
      · by_cases h0 : t = []
        · have hd : t.isEmpty = true := by rw [h0]; rfl
          have htl : (t.length : Int) = 0 := by rw [h0]; rfl
          refine walk (both h1 (both h2 (both h3 hd))) ?_
          refine walk (both h1 (both h2 (both h3 (both hd htl)))) ?_
          obtain ⟨L, hL⟩ : ∃ L, L = t.length := ⟨_, rfl⟩
          refine Wq.loop (fun q e H' => ∃ i : Nat, i ≤ L ∧ q = L - i ∧ H' = H ∧ e 0 = .ptr (some (m, 0)) ∧ e 1 = .int .i64 k ∧ e 2 = .str t ∧ e 8 = .int .i64 i ∧ ∀ j < i, t[j]? ≠ some 0) L ?_ ?_
          · exact ⟨0, by omega, by omega, rfl, by simp, by simp, by simp, by simp, fun j hj => by omega⟩
          · rintro q e H' ⟨i, hi, rfl, rfl, g0, g1, g2, g8, hfi⟩
            by_cases hlt : i < L
            · exfalso
              omega
            · obtain rfl : i = L := by omega
              have hltI : ¬ (i : Int) < t.length := by omega
              have hno : (0 : UInt8) ∉ t := fun hc => by
                obtain ⟨j, hj⟩ := List.mem_iff_getElem?.1 hc
                exact hfi j (by have := (List.getElem?_eq_some_iff.1 hj).1; omega) hj
              have hw : wrongE k t = 0 := by unfold wrongE; rw [if_neg h3, if_pos ⟨by omega, h0⟩]
              refine walk (both g0 (both g1 (both g2 (both g8 hltI)))) ?_
              refine Wq.regionD [0, 1, 2, 3, 4, 5, 6, 7, 8, 9] (by kernel_rfl) ?_
              by_cases hfull : many ≤ (W.length : Int)
              · refine walk (both g0 (both g1 (both g2 (both g8 (both hg hfull))))) ?_
                exact .inl ⟨.inr hfull, by rw [if_neg (by rw [hw]; decide)], rfl⟩
              · refine walk (both g0 (both g1 (both g2 (both g8 (both hg hfull))))) ?_
                refine Wq.regionD [1, 2, 3, 4, 5, 6, 7, 8, 9, 10, 11, 12, 13, 0, 14, 15, 16] (by kernel_rfl) ?_
                refine walk (both g0 (both g1 (both g2 (both g8 hg)))) ?_
                have kk : Keep H' (H'.push (.cells (encW (newNW next k t)) 59 true false)) := Upd.rfl.push _
                refine Oq.appendG (own := (h.tab.own.kept kk)) (new := (encW (newNW next k t))) (m := 1) (by simp (disch := omega) [g0, g1, g2, g8, encW, newNW, newNd, -getElem?_pos, wrapI64, tdivN, tmodN, ipos, ineg, dpos, dneg, slc_l, slc_h, slc_lh, slc_hm, slc_lhm, slc_0, slcR_some, slcR_none, cutS_ok, cutA_ok, byteAt_ok]; first | done | (repeat' (first | rfl | apply And.intro))) ⟨_, rfl, by simp; first | done | (repeat' (first | rfl | apply And.intro))⟩ rfl (by kernel_rfl) (by kernel_rfl) (by refine ⟨by simp, ?_⟩; simp (disch := omega) [srcCells, cellsAt, g0, g1, g2, g8, encW, newNW, newNd, -getElem?_pos, wrapI64, tdivN, tmodN, ipos, ineg, dpos, dneg, slc_l, slc_h, slc_lh, slc_hm, slc_lhm, slc_0, slcR_some, slcR_none, cutS_ok, cutA_ok, byteAt_ok]; first | done | rfl) rfl rfl (by omega) (by omega) fun w1 H2 o1 b1 s1 => ?_
                obtain ⟨q1, q2, q3, q4⟩ := h.tab.grow kk o1 b1 s1 (next + 1)
                obtain ⟨wa, wc, wx, rfl, _⟩ := o1.form
                refine walk (both g0 q1) ?_
                obtain ⟨r1, r2⟩ := q4 _ (Heap.get_set_same _ _ _) (((Upd.rfl (fp := fun z => z = m)).set _ q2 fun _ => rfl).set _ (by simpa using q2) fun _ => rfl)
                refine .inr ⟨hw, by omega, rfl, _, h.turn r1 r2 q3 fun j w hj => ?_, r2, footR_turn q3 fun j w hj => ?_⟩
                all_goals
                  by_cases hjl : j < W.length
                  · rw [List.getElem?_append_left hjl] at hj
                    first | exact .inl ⟨j, w.1, hj, rfl, rfl⟩ | exact .inl ⟨j, w.1, hj⟩
                  · rw [List.getElem?_append_right (by omega)] at hj
                    have hj1 := lt_of_getW hj
                    simp at hj1
                    rw [show j - W.length = 0 by omega] at hj
                    simp at hj
                    subst hj
                    first | exact .inr ⟨refR_nil _, fun z hz => absurd hz (blkOf_nil z)⟩ | exact .inr fun z hz => absurd hz (blkOf_nil z)
        · have hw : wrongE k t = 22 := by unfold wrongE; rw [if_neg h3, if_neg (fun hc => h0 hc.2)]
          refine walk (both h1 (both h2 (both h3 h0))) ?_
          exact .inl ⟨.inl (by rw [hw]; decide), by rw [hw]; rfl, rfl⟩
end
end Go.Abs

/- Chapter 06: the reference's Count, walked. -/
namespace Go.Abs
open Go.Proofs
set_option maxRecDepth 100000
set_option linter.unusedVariables false
set_option linter.unusedSimpArgs false

theorem flat_takeN {α : Type} {enc : α → List AV} {s : Nat} (hs : ∀ x, (enc x).length = s) : ∀ (l : List α) (i : Nat), flat enc (l.take i) = (flat enc l).take (i * s)
  | [], i => by simp [flat]
  | x :: l, 0 => by simp [flat]
  | x :: l, i + 1 => by
    have := flat_takeN hs l i
    simp only [flat, List.take_succ_cons, List.flatMap_cons] at this ⊢
    rw [this, List.take_append, hs, List.take_of_length_le (l := enc x) (by rw [hs, Nat.add_mul]; omega), show (i + 1) * s - s = i * s by rw [Nat.add_mul]; omega]
theorem flat_dropN {α : Type} {enc : α → List AV} {s : Nat} (hs : ∀ x, (enc x).length = s) : ∀ (l : List α) (i : Nat), flat enc (l.drop i) = (flat enc l).drop (i * s)
  | [], i => by simp [flat]
  | x :: l, 0 => by simp [flat]
  | x :: l, i + 1 => by
    have := flat_dropN hs l i
    simp only [flat, List.drop_succ_cons, List.flatMap_cons] at this ⊢
    rw [this, List.drop_append, hs, List.drop_of_length_le (l := enc x) (by rw [hs, Nat.add_mul]; omega), show (i + 1) * s - s = i * s by rw [Nat.add_mul]; omega, List.nil_append]
theorem erase_set {α : Type} {l : List α} {i : Nat} {x : α} : (l.set i x).eraseIdx i = l.eraseIdx i := by
  induction l generalizing i with
  | nil => rfl
  | cons a l ih => cases i with
    | zero => rfl
    | succ i => simp [List.eraseIdx_cons_succ, ih]
theorem refR_one {H : Heap} {s1 s2 : AV} {B : List UInt8} {Has : List Bool} (h : RefR H (.agg [s1, s2]) B Has) : AV.one s1 = true ∧ AV.one s2 = true := by
  obtain ⟨a, c, x, a', c', x', e, _⟩ := h
  simp only [AV.agg.injEq, List.cons.injEq, and_true] at e
  obtain ⟨rfl, rfl⟩ := e
  exact ⟨rfl, rfl⟩
section
variable {H H' : Heap} {m : Nat} {slv slv' : AV} {W : List NW} {next next' many blocks : Int} {c : Nat}
theorem RefS.one (h : RefS H m slv W next many blocks) : (flat encW W).all AV.one = true := by
  rw [List.all_eq_true]
  intro y hy
  obtain ⟨w, hw, hy⟩ := List.mem_flatMap.1 hy
  obtain ⟨j, hj⟩ := List.mem_iff_getElem?.1 hw
  obtain ⟨g1, g2⟩ := refR_one (h.rf j w hj)
  simp only [encW, List.mem_cons, List.not_mem_nil, or_false] at hy
  rcases hy with rfl | rfl | rfl | rfl | rfl | rfl | rfl | rfl | rfl
  all_goals first | rfl | exact g1 | exact g2
/-- A number of a node turned. -/
theorem RefS.put {b o cap i k : Nat} {ex : Option Nat} {cc : List AV} {x x' : Nd} {s1 s2 v : AV} (h : RefS H m (.slice (some (b, o)) W.length cap ex) W next many blocks) (hw : W[i]? = some (x, s1, s2)) (hg : H.get b = some (.cells cc 59 true false)) (hc : (cc.drop o).take (W.length * 9) = flat encW W)
    (hB : x.B = x'.B) (hH : x.Has = x'.Has) (hk : k < 9) (hy : encW (x', s1, s2) = (encW (x, s1, s2)).set k v) :
    RefS (H.set b (.cells (cc.set (o + i * 9 + k) v) 59 true false)) m (.slice (some (b, o)) W.length cap ex) (W.set i (x', s1, s2)) next many blocks ∧ Upd (tabR m (.slice (some (b, o)) W.length cap ex)) H (H.set b (.cells (cc.set (o + i * 9 + k) v) 59 true false)) := by
  have hi := lt_of_getW hw
  have u : Upd (tabR m (.slice (some (b, o)) W.length cap ex)) H (H.set b (.cells (cc.set (o + i * 9 + k) v) 59 true false)) := Upd.rfl.set _ (h.tab.bl b rfl) fun _ => .inr rfl
  refine ⟨h.turn (h.tab.putC hi hg (by simp) (put1 hc hw hk hy)) u (fun z hz => .inl hz) fun j w hj => ?_, u⟩
  by_cases e : i = j
  · subst e
    rw [List.getElem?_set_self hi] at hj
    injection hj with hj
    subst hj
    exact .inl ⟨i, x, hw, hB, hH⟩
  · rw [List.getElem?_set_ne e] at hj
    exact .inl ⟨j, w.1, hj, rfl, rfl⟩
theorem footR_set {i n : Nat} {x x' : Nd} {s1 s2 : AV} (hw : W[i]? = some (x, s1, s2)) : ∀ z, footR m slv (W.set i (x', s1, s2)) z → footR m slv W z ∨ n ≤ z := footR_turn (fun z hz => .inl hz) fun j w hj => by
  rw [List.getElem?_set] at hj
  split at hj
  · split at hj
    · injection hj with hj
      subst hj
      exact .inl ⟨i, x, hw⟩
    · cases hj
  · exact .inl ⟨j, w.1, hj⟩
theorem Count32_no (h : TabW H m slv W next many blocks) (hl : W.length ≤ 100000) {n : Int} (l : Bool) (by' : Int) (hn : ∀ x ∈ ndw W, x.ino ≠ n) : Cl Try.prog pr06 32 [.ptr (some (m, 0)), .int .i64 n, .bool l, .int .i64 by'] H fun v H' => v = .int .i64 2 ∧ H' = H := by
  have ha : atI (ndw W) n = -1 := by simp [atI, fnd_all hn]
  refine Cl.enter Try.func32 rfl rfl Try.ntmps32 (by simp) ?_
  refine walk none0 ?_
  refine (At18_ok h hl n).mono fun v H1 _ ⟨ea, eb⟩ => ?_
  rw [ha] at ea
  subst ea; subst eb
  refine walk none0 ?_
  exact ⟨rfl, rfl⟩
/-- What comes of one less. -/
def LessW (H H' : Heap) (m : Nat) (slv : AV) (W : List NW) (next many blocks : Int) (i : Nat) (x' : Nd) (s1 s2 : AV) (n : Int) (v : AV) : Prop :=
  (n = 0 ∧ v = .int .i64 22 ∧ H' = H) ∨ (n ≠ 0 ∧ ¬ (x'.links = 0 ∧ x'.holds = 0) ∧ v = .int .i64 0 ∧ RefS H' m slv (W.set i (x', s1, s2)) next many blocks ∧ Upd (tabR m slv) H H') ∨
  (n ≠ 0 ∧ x'.links = 0 ∧ x'.holds = 0 ∧ v = .int .i64 0 ∧ ∃ slv', RefS H' m slv' (W.eraseIdx i) next many blocks ∧ Upd (tabR m slv) H H' ∧ ∀ z, footR m slv' (W.eraseIdx i) z → footR m slv W z ∨ H.next ≤ z)
theorem Count32_link (h : RefS H m slv W next many blocks) (f : Fine (ndw W) next many blocks c) {i : Nat} {x : Nd} {s1 s2 : AV} (hw : W[i]? = some (x, s1, s2)) : Cl Try.prog pr06 32 [.ptr (some (m, 0)), .int .i64 x.ino, .bool true, .int .i64 1] H fun v H' =>
    (32 ≤ x.links ∧ v = .int .i64 31 ∧ H' = H) ∨ (¬ 32 ≤ x.links ∧ v = .int .i64 0 ∧ RefS H' m slv (W.set i ({ x with links := x.links + 1 }, s1, s2)) next many blocks ∧ Upd (tabR m slv) H H') := by
  have hfew := f.few
  have hmb := f.mb
  have hcc := f.cc
  rw [ndw_len] at hfew
  have ha := atI_yes f (ndw_get hw)
  have hln := f.ln x (List.mem_of_getElem? (ndw_get hw))
  have hg := h.tab.g
  have hiW := lt_of_getW hw
  have hiI : (i : Int) < W.length := by omega
  obtain ⟨b, o, cap, ex, cc, rfl, _, hex, hbn, q2, q3, q4, q5, q6⟩ := h.tab.node hw
  have p2 : cc[o + i * 9 + 2]? = some (.int .i64 x.links) := q6 2 (by decide)
  have p3 : cc[o + i * 9 + 3]? = some (.int .i64 x.holds) := q6 3 (by decide)
  have l2 : o + i * 9 + 2 < cc.length := by omega
  have l3 : o + i * 9 + 3 < cc.length := by omega
  refine Cl.enter Try.func32 rfl rfl Try.ntmps32 (by simp) ?_
  refine walk none0 ?_
  refine (At18_ok h.tab (by omega) x.ino).mono fun v H1 _ ⟨ea, eb⟩ => ?_
  rw [ha] at ea
  subst ea; subst eb
  by_cases h1 : 32 ≤ x.links
  · refine walk (both hg (both q2 (both p2 (both p3 (both l2 (both l3 (both hiW (both hiI h1)))))))) ?_
    exact .inl ⟨h1, rfl, rfl⟩
  · refine walk (both hg (both q2 (both p2 (both p3 (both l2 (both l3 (both hiW (both hiI h1)))))))) ?_
    refine Wq.regionD [0, 1, 2, 3, 4, 5, 6, 7, 8, 9, 10, 11, 12, 13, 14, 15, 16, 17] (by kernel_rfl) ?_
    refine walk (both hg (both q2 (both p2 (both p3 (both l2 (both l3 (both hiW hiI))))))) ?_
    obtain ⟨r1, r2⟩ := h.put (k := 2) (x' := { x with links := x.links + 1 }) (v := .int .i64 (x.links + 1)) hw q2 q5 rfl rfl (by decide) rfl
    obtain ⟨H2, e2⟩ : ∃ H2, H2 = H1.set b (.cells (cc.set (o + i * 9 + 2) (.int .i64 (x.links + 1))) 59 true false) := ⟨_, rfl⟩
    rw [← e2] at r1 r2 ⊢
    clear e2
    have hgn := r1.tab.g
    obtain ⟨b', o', cap', ex', cn, en, _, _, _, q2n, _, q4n, _, q6n⟩ := r1.tab.node (List.getElem?_set_self hiW)
    simp only [AV.slice.injEq, Option.some.injEq, Prod.mk.injEq] at en
    obtain ⟨⟨rfl, rfl⟩, _, rfl, rfl⟩ := en
    have p2n : cn[o + i * 9 + 2]? = some (.int .i64 ({ x with links := x.links + 1 }).links) := q6n 2 (by decide)
    have p3n : cn[o + i * 9 + 3]? = some (.int .i64 ({ x with links := x.links + 1 }).holds) := q6n 3 (by decide)
    have l2n : o + i * 9 + 2 < cn.length := by omega
    have l3n : o + i * 9 + 3 < cn.length := by omega
    simp only [] at p2n p3n
    have hz : ¬ x.links + 1 = 0 := by omega
    refine walk (both hgn (both q2n (both p2n (both p3n (both l2n (both l3n (both hiW (both hiI hz)))))))) ?_
    exact .inr ⟨h1, rfl, r1, r2⟩
theorem Count32_hold (h : RefS H m slv W next many blocks) (f : Fine (ndw W) next many blocks c) {i : Nat} {x : Nd} {s1 s2 : AV} (hw : W[i]? = some (x, s1, s2)) : Cl Try.prog pr06 32 [.ptr (some (m, 0)), .int .i64 x.ino, .bool false, .int .i64 1] H fun v H' =>
    v = .int .i64 0 ∧ RefS H' m slv (W.set i ({ x with holds := x.holds + 1 }, s1, s2)) next many blocks ∧ Upd (tabR m slv) H H' := by
  have hfew := f.few
  have hmb := f.mb
  have hcc := f.cc
  rw [ndw_len] at hfew
  have ha := atI_yes f (ndw_get hw)
  have hln := f.ln x (List.mem_of_getElem? (ndw_get hw))
  have hg := h.tab.g
  have hiW := lt_of_getW hw
  have hiI : (i : Int) < W.length := by omega
  obtain ⟨b, o, cap, ex, cc, rfl, _, hex, hbn, q2, q3, q4, q5, q6⟩ := h.tab.node hw
  have p2 : cc[o + i * 9 + 2]? = some (.int .i64 x.links) := q6 2 (by decide)
  have p3 : cc[o + i * 9 + 3]? = some (.int .i64 x.holds) := q6 3 (by decide)
  have l2 : o + i * 9 + 2 < cc.length := by omega
  have l3 : o + i * 9 + 3 < cc.length := by omega
  refine Cl.enter Try.func32 rfl rfl Try.ntmps32 (by simp) ?_
  refine walk none0 ?_
  refine (At18_ok h.tab (by omega) x.ino).mono fun v H1 _ ⟨ea, eb⟩ => ?_
  rw [ha] at ea
  subst ea; subst eb
  refine walk (both hg (both q2 (both p2 (both p3 (both l2 (both l3 (both hiW hiI))))))) ?_
  refine Wq.regionD [0, 1, 2, 3, 4, 5, 6, 7, 8, 9, 10, 11, 12, 13, 14, 15, 16, 17] (by kernel_rfl) ?_
  refine walk (both hg (both q2 (both p2 (both p3 (both l2 (both l3 (both hiW hiI))))))) ?_
  obtain ⟨r1, r2⟩ := h.put (k := 3) (x' := { x with holds := x.holds + 1 }) (v := .int .i64 (x.holds + 1)) hw q2 q5 rfl rfl (by decide) rfl
  obtain ⟨H2, e2⟩ : ∃ H2, H2 = H1.set b (.cells (cc.set (o + i * 9 + 3) (.int .i64 (x.holds + 1))) 59 true false) := ⟨_, rfl⟩
  rw [← e2] at r1 r2 ⊢
  clear e2
  have hgn := r1.tab.g
  obtain ⟨b', o', cap', ex', cn, en, _, _, _, q2n, _, q4n, _, q6n⟩ := r1.tab.node (List.getElem?_set_self hiW)
  simp only [AV.slice.injEq, Option.some.injEq, Prod.mk.injEq] at en
  obtain ⟨⟨rfl, rfl⟩, _, rfl, rfl⟩ := en
  have p2n : cn[o + i * 9 + 2]? = some (.int .i64 ({ x with holds := x.holds + 1 }).links) := q6n 2 (by decide)
  have p3n : cn[o + i * 9 + 3]? = some (.int .i64 ({ x with holds := x.holds + 1 }).holds) := q6n 3 (by decide)
  have l2n : o + i * 9 + 2 < cn.length := by omega
  have l3n : o + i * 9 + 3 < cn.length := by omega
  simp only [] at p2n p3n
  have hz : ¬ x.holds + 1 = 0 := by omega
  by_cases hl0 : x.links = 0
  · refine walk (both hgn (both q2n (both p2n (both p3n (both l2n (both l3n (both hiW (both hiI (both hz hl0))))))))) ?_
    exact ⟨rfl, r1, r2⟩
  · refine walk (both hgn (both q2n (both p2n (both p3n (both l2n (both l3n (both hiW (both hiI (both hz hl0))))))))) ?_
    exact ⟨rfl, r1, r2⟩
set_option maxHeartbeats 1000000 in
theorem Count32_unlink (h : RefS H m slv W next many blocks) (f : Fine (ndw W) next many blocks c) {i : Nat} {x : Nd} {s1 s2 : AV} (hw : W[i]? = some (x, s1, s2)) : Cl Try.prog pr06 32 [.ptr (some (m, 0)), .int .i64 x.ino, .bool true, .int .i64 (-1)] H fun v H' =>
    LessW H H' m slv W next many blocks i { x with links := x.links - 1 } s1 s2 x.links v := by
  have hfew := f.few
  have hmb := f.mb
  have hcc := f.cc
  rw [ndw_len] at hfew
  have ha := atI_yes f (ndw_get hw)
  have hln := f.ln x (List.mem_of_getElem? (ndw_get hw))
  have hg := h.tab.g
  have hiW := lt_of_getW hw
  have hiI : (i : Int) < W.length := by omega
  obtain ⟨b, o, cap, ex, cc, rfl, _, hex, hbn, q2, q3, q4, q5, q6⟩ := h.tab.node hw
  have p2 : cc[o + i * 9 + 2]? = some (.int .i64 x.links) := q6 2 (by decide)
  have p3 : cc[o + i * 9 + 3]? = some (.int .i64 x.holds) := q6 3 (by decide)
  have l2 : o + i * 9 + 2 < cc.length := by omega
  have l3 : o + i * 9 + 3 < cc.length := by omega
  refine Cl.enter Try.func32 rfl rfl Try.ntmps32 (by simp) ?_
  refine walk none0 ?_
  refine (At18_ok h.tab (by omega) x.ino).mono fun v H1 _ ⟨ea, eb⟩ => ?_
  rw [ha] at ea
  subst ea; subst eb
  by_cases h0 : x.links = 0
  · refine walk (both hg (both q2 (both p2 (both p3 (both l2 (both l3 (both hiW (both hiI h0)))))))) ?_
    exact .inl ⟨h0, rfl, rfl⟩
  · refine walk (both hg (both q2 (both p2 (both p3 (both l2 (both l3 (both hiW (both hiI h0)))))))) ?_
    refine Wq.regionD [0, 1, 2, 3, 4, 5, 6, 7, 8, 9, 10, 11, 12, 13, 14, 15, 16, 17] (by kernel_rfl) ?_
    refine walk (both hg (both q2 (both p2 (both p3 (both l2 (both l3 (both hiW (both hiI h0)))))))) ?_
    rw [show x.links + -1 = x.links - 1 by omega]
    obtain ⟨r1, r2⟩ := h.put (k := 2) (x' := { x with links := x.links - 1 }) (v := .int .i64 (x.links - 1)) hw q2 q5 rfl rfl (by decide) rfl
    obtain ⟨H2, e2⟩ : ∃ H2, H2 = H1.set b (.cells (cc.set (o + i * 9 + 2) (.int .i64 (x.links - 1))) 59 true false) := ⟨_, rfl⟩
    rw [← e2] at r1 r2 ⊢
    clear e2
    have hgn := r1.tab.g
    obtain ⟨b', o', cap', ex', cn, en, _, _, _, q2n, _, q4n, _, q6n⟩ := r1.tab.node (List.getElem?_set_self hiW)
    simp only [AV.slice.injEq, Option.some.injEq, Prod.mk.injEq] at en
    obtain ⟨⟨rfl, rfl⟩, _, rfl, rfl⟩ := en
    have p2n : cn[o + i * 9 + 2]? = some (.int .i64 ({ x with links := x.links - 1 }).links) := q6n 2 (by decide)
    have p3n : cn[o + i * 9 + 3]? = some (.int .i64 ({ x with links := x.links - 1 }).holds) := q6n 3 (by decide)
    have l2n : o + i * 9 + 2 < cn.length := by omega
    have l3n : o + i * 9 + 3 < cn.length := by omega
    simp only [] at p2n p3n
    by_cases g1 : x.links - 1 = 0
    · by_cases g2 : x.holds = 0
      · refine walk (both hgn (both q2n (both p2n (both p3n (both l2n (both l3n (both hiW (both hiI (both g1 g2))))))))) ?_
        refine Wq.regionM [(1, 0), (2, 0), (3, 0), (4, 0), (5, 0), (6, 0), (7, 0), (8, 0), (9, 0), (10, 0), (11, 0), (12, 2), (13, 0), (14, 0), (15, 0), (16, 0), (0, 0), (17, 0), (18, 0), (19, 0)] (by kernel_rfl) ?_
        have herase : (W.set i ({ x with links := x.links - 1 }, s1, s2)).eraseIdx i = W.eraseIdx i := erase_set
        have hlen : (W.eraseIdx i).length = W.length - 1 := List.length_eraseIdx_of_lt hiW
        have hl2 : (W.set i ({ x with links := x.links - 1 }, s1, s2)).length = W.length := List.length_set
        have hW2 : ∀ (j : Nat) (w : NW), (W.eraseIdx i)[j]? = some w → ∃ k : Nat, W[k]? = some w := fun j w hj => by
          rw [List.getElem?_eraseIdx] at hj
          split at hj
          · exact ⟨_, hj⟩
          · exact ⟨_, hj⟩
        generalize W.set i ({ x with links := x.links - 1 }, s1, s2) = W2 at *
        have hk3 : Keep H2 (H2.push (.cells [] 59 true false)) := Upd.rfl.push _
        have t3 := r1.tab.kept hk3
        have t3g := t3.g
        have ho3 := t3.own
        rw [hl2] at ho3
        have hs3 := (ho3.sl).sub (k := 0) (m := i) (cap' := cap) (ex' := ex) (by omega) (by omega) hex
        simp only [Nat.zero_mul, Nat.add_zero, List.drop_zero] at hs3
        refine mwalk t3g ?_
        refine Dq.appendL (own := (.empty _)) (new := ((flat encW W2).take (i * 9))) (q := i) rfl met_none (by simp (disch := omega) [t3g, -getElem?_pos, wrapI64, tdivN, tmodN, ipos, ineg, dpos, dneg, slc_l, slc_h, slc_lh, slc_hm, slc_lhm, slc_0, slcR_some, slcR_none, cutS_ok, cutA_ok, byteAt_ok]; first | done | (repeat' (first | rfl | apply And.intro))) ⟨_, rfl, by simp; first | done | (repeat' (first | rfl | apply And.intro))⟩ rfl (by kernel_rfl) (by kernel_rfl) (hs3.src') hs3.len (List.all_eq_true.2 fun x hx => List.all_eq_true.1 r1.one x (List.mem_of_mem_take hx)) (by omega) (by omega) fun w1 H4 o4 b4 s4 z4 => ?_
        have k4 : Keep H2 H4 := hk3.butOne b4 fun z hz hlt => by simp [slBlock] at hz; omega
        have t4 := r1.tab.kept k4
        have t4g := t4.g
        have ho4 := t4.own
        rw [hl2] at ho4
        refine mwalk (both t4g hgn) ?_
        generalize hM : ((W.length : Int) - ((i : Int) + 1)).toNat = M
        generalize hC : ((cap : Int) - ((i : Int) + 1)).toNat = C
        have hMl : M = W.length - (i + 1) := by omega
        have hs4 := ho4.sl.sub (k := i + 1) (m := M) (cap' := C) (ex' := ex) (by omega) (by omega) hex
        have hf2 := flatW_len W2
        have hsl : ((flat encW W2).drop ((i + 1) * 9)).take (M * 9) = (flat encW W2).drop ((i + 1) * 9) := List.take_of_length_le (by rw [List.length_drop]; omega)
        rw [hsl] at hs4
        have hw1 : ∀ z, slBlock w1 = some z → H2.next ≤ z := fun z hz => by
          rcases s4 with e | e
          · rw [e] at hz; simp [slBlock] at hz; omega
          · rw [e] at hz; simp at hz; omega
        have hn4 := k4.next
        refine Dq.appendL (own := o4) (new := ((flat encW W2).drop ((i + 1) * 9))) (q := M) rfl met_none (by simp (disch := omega) [t4g, -getElem?_pos, wrapI64, tdivN, tmodN, ipos, ineg, dpos, dneg, slc_l, slc_h, slc_lh, slc_hm, slc_lhm, slc_0, slcR_some, slcR_none, cutS_ok, cutA_ok, byteAt_ok]; first | done | (repeat' (first | rfl | apply And.intro))) ⟨_, rfl, by simp; first | done | (repeat' (first | rfl | apply And.intro))⟩ rfl (by kernel_rfl) (by kernel_rfl) (hs4.src') hs4.len (List.all_eq_true.2 fun x hx => List.all_eq_true.1 r1.one x (List.mem_of_mem_drop hx)) (by omega) (by omega) fun w2 H5 o5 b5 s5 z5 => ?_
        have k5 : Keep H2 H5 := k4.butOne b5 fun z hz hlt => by have := hw1 z hz; omega
        have t5 := r1.tab.kept k5
        have t5g := t5.g
        have hp5 := t5.lt
        have hn5 := k5.next
        have hp2 := r1.tab.lt
        have hq2 := r2.next
        obtain ⟨wa, wc, wx, rfl, _⟩ := o5.form
        refine mwalk t5g ?_
        refine walk none0 ?_
        have hcs : [] ++ List.take (i * 9) (flat encW W2) ++ List.drop ((i + 1) * 9) (flat encW W2) = flat encW (W.eraseIdx i) := by
          rw [← herase, List.eraseIdx_eq_take_drop_succ, flat_app, flat_takeN encW_len, flat_dropN encW_len, List.nil_append]
        have hw2 : ∀ z, slBlock (.slice wa (0 + i + M) wc wx) = some z → H2.next ≤ z := fun z hz => by
          rcases s5 with e | e
          · rw [e] at hz; exact hw1 z hz
          · rw [e] at hz; injection hz with hz; omega
        rw [hcs] at o5
        have hcnt : 0 + i + M = (W.eraseIdx i).length := by omega
        rw [hcnt] at o5 hw2 z5
        have hcnt' : i + M = (W.eraseIdx i).length := by omega
        rw [hcnt']
        have u5 : Upd (tabR m (.slice (some (b, o)) W.length cap ex)) H1 H5 := r2.trans k5 fun z _ h => h.elim
        have hpw : ∀ z, slBlock (.slice wa (W.eraseIdx i).length wc wx) = some z → z ≠ m := fun z hz e => by have := hw2 z hz; omega
        have u6 : Upd (tabR m (.slice (some (b, o)) W.length cap ex)) H1 (H5.set m (.cells [.slice wa (W.eraseIdx i).length wc wx, .int .i64 next, .int .i64 many, .int .i64 blocks] 32 true false)) := u5.set _ (by omega) fun _ => .inl rfl
        have hF : Fro H1 (.slice (some (b, o)) W.length cap ex) (.slice wa (W.eraseIdx i).length wc wx) := fun z hz => .inr (by have := hw2 z hz; omega)
        refine .inr (.inr ⟨h0, g1, g2, rfl, .slice wa (W.eraseIdx i).length wc wx, h.turn ⟨Heap.get_set_same _ _ _, o5.keep (Nat.le_refl _) fun z hz _ => ?_, fun e => hpw _ e rfl, fun z hz => ?_, by simpa using hp5⟩ u6 hF fun j w hj => ?_, u6, footR_turn hF fun j w hj => ?_⟩)
        · rw [Heap.get_set, if_neg (fun e => hpw z hz e)]
        · rcases z5 z hz with h' | h'
          · rcases z4 z h' with h'' | h''
            · simp [slBlock] at h''
              have := b4.1
              have := b5.1
              simp at *; omega
            · have := b5.1
              simp; omega
          · simpa using h'
        · obtain ⟨k, hk⟩ := hW2 j w hj
          exact .inl ⟨k, w.1, hk, rfl, rfl⟩
        · obtain ⟨k, hk⟩ := hW2 j w hj
          exact .inl ⟨k, w.1, hk⟩
      · refine walk (both hgn (both q2n (both p2n (both p3n (both l2n (both l3n (both hiW (both hiI (both g1 g2))))))))) ?_
        exact .inr (.inl ⟨h0, fun hc => g2 hc.2, rfl, r1, r2⟩)
    · refine walk (both hgn (both q2n (both p2n (both p3n (both l2n (both l3n (both hiW (both hiI g1)))))))) ?_
      exact .inr (.inl ⟨h0, fun hc => g1 hc.1, rfl, r1, r2⟩)
set_option maxHeartbeats 1000000 in
theorem Count32_release (h : RefS H m slv W next many blocks) (f : Fine (ndw W) next many blocks c) {i : Nat} {x : Nd} {s1 s2 : AV} (hw : W[i]? = some (x, s1, s2)) : Cl Try.prog pr06 32 [.ptr (some (m, 0)), .int .i64 x.ino, .bool false, .int .i64 (-1)] H fun v H' =>
    LessW H H' m slv W next many blocks i { x with holds := x.holds - 1 } s1 s2 x.holds v := by
  have hfew := f.few
  have hmb := f.mb
  have hcc := f.cc
  rw [ndw_len] at hfew
  have ha := atI_yes f (ndw_get hw)
  have hln := f.ln x (List.mem_of_getElem? (ndw_get hw))
  have hg := h.tab.g
  have hiW := lt_of_getW hw
  have hiI : (i : Int) < W.length := by omega
  obtain ⟨b, o, cap, ex, cc, rfl, _, hex, hbn, q2, q3, q4, q5, q6⟩ := h.tab.node hw
  have p2 : cc[o + i * 9 + 2]? = some (.int .i64 x.links) := q6 2 (by decide)
  have p3 : cc[o + i * 9 + 3]? = some (.int .i64 x.holds) := q6 3 (by decide)
  have l2 : o + i * 9 + 2 < cc.length := by omega
  have l3 : o + i * 9 + 3 < cc.length := by omega
  refine Cl.enter Try.func32 rfl rfl Try.ntmps32 (by simp) ?_
  refine walk none0 ?_
  refine (At18_ok h.tab (by omega) x.ino).mono fun v H1 _ ⟨ea, eb⟩ => ?_
  rw [ha] at ea
  subst ea; subst eb
  by_cases h0 : x.holds = 0
  · refine walk (both hg (both q2 (both p2 (both p3 (both l2 (both l3 (both hiW (both hiI h0)))))))) ?_
    exact .inl ⟨h0, rfl, rfl⟩
  · refine walk (both hg (both q2 (both p2 (both p3 (both l2 (both l3 (both hiW (both hiI h0)))))))) ?_
    refine Wq.regionD [0, 1, 2, 3, 4, 5, 6, 7, 8, 9, 10, 11, 12, 13, 14, 15, 16, 17] (by kernel_rfl) ?_
    refine walk (both hg (both q2 (both p2 (both p3 (both l2 (both l3 (both hiW (both hiI h0)))))))) ?_
    rw [show x.holds + -1 = x.holds - 1 by omega]
    obtain ⟨r1, r2⟩ := h.put (k := 3) (x' := { x with holds := x.holds - 1 }) (v := .int .i64 (x.holds - 1)) hw q2 q5 rfl rfl (by decide) rfl
    obtain ⟨H2, e2⟩ : ∃ H2, H2 = H1.set b (.cells (cc.set (o + i * 9 + 3) (.int .i64 (x.holds - 1))) 59 true false) := ⟨_, rfl⟩
    rw [← e2] at r1 r2 ⊢
    clear e2
    have hgn := r1.tab.g
    obtain ⟨b', o', cap', ex', cn, en, _, _, _, q2n, _, q4n, _, q6n⟩ := r1.tab.node (List.getElem?_set_self hiW)
    simp only [AV.slice.injEq, Option.some.injEq, Prod.mk.injEq] at en
    obtain ⟨⟨rfl, rfl⟩, _, rfl, rfl⟩ := en
    have p2n : cn[o + i * 9 + 2]? = some (.int .i64 ({ x with holds := x.holds - 1 }).links) := q6n 2 (by decide)
    have p3n : cn[o + i * 9 + 3]? = some (.int .i64 ({ x with holds := x.holds - 1 }).holds) := q6n 3 (by decide)
    have l2n : o + i * 9 + 2 < cn.length := by omega
    have l3n : o + i * 9 + 3 < cn.length := by omega
    simp only [] at p2n p3n
    by_cases g1 : x.links = 0
    · by_cases g2 : x.holds - 1 = 0
      · refine walk (both hgn (both q2n (both p2n (both p3n (both l2n (both l3n (both hiW (both hiI (both g1 g2))))))))) ?_
        refine Wq.regionM [(1, 0), (2, 0), (3, 0), (4, 0), (5, 0), (6, 0), (7, 0), (8, 0), (9, 0), (10, 0), (11, 0), (12, 2), (13, 0), (14, 0), (15, 0), (16, 0), (0, 0), (17, 0), (18, 0), (19, 0)] (by kernel_rfl) ?_
        have herase : (W.set i ({ x with holds := x.holds - 1 }, s1, s2)).eraseIdx i = W.eraseIdx i := erase_set
        have hlen : (W.eraseIdx i).length = W.length - 1 := List.length_eraseIdx_of_lt hiW
        have hl2 : (W.set i ({ x with holds := x.holds - 1 }, s1, s2)).length = W.length := List.length_set
        have hW2 : ∀ (j : Nat) (w : NW), (W.eraseIdx i)[j]? = some w → ∃ k : Nat, W[k]? = some w := fun j w hj => by
          rw [List.getElem?_eraseIdx] at hj
          split at hj
          · exact ⟨_, hj⟩
          · exact ⟨_, hj⟩
        generalize W.set i ({ x with holds := x.holds - 1 }, s1, s2) = W2 at *
        have hk3 : Keep H2 (H2.push (.cells [] 59 true false)) := Upd.rfl.push _
        have t3 := r1.tab.kept hk3
        have t3g := t3.g
        have ho3 := t3.own
        rw [hl2] at ho3
        have hs3 := (ho3.sl).sub (k := 0) (m := i) (cap' := cap) (ex' := ex) (by omega) (by omega) hex
        simp only [Nat.zero_mul, Nat.add_zero, List.drop_zero] at hs3
        refine mwalk t3g ?_
        refine Dq.appendL (own := (.empty _)) (new := ((flat encW W2).take (i * 9))) (q := i) rfl met_none (by simp (disch := omega) [t3g, -getElem?_pos, wrapI64, tdivN, tmodN, ipos, ineg, dpos, dneg, slc_l, slc_h, slc_lh, slc_hm, slc_lhm, slc_0, slcR_some, slcR_none, cutS_ok, cutA_ok, byteAt_ok]; first | done | (repeat' (first | rfl | apply And.intro))) ⟨_, rfl, by simp; first | done | (repeat' (first | rfl | apply And.intro))⟩ rfl (by kernel_rfl) (by kernel_rfl) (hs3.src') hs3.len (List.all_eq_true.2 fun x hx => List.all_eq_true.1 r1.one x (List.mem_of_mem_take hx)) (by omega) (by omega) fun w1 H4 o4 b4 s4 z4 => ?_
        have k4 : Keep H2 H4 := hk3.butOne b4 fun z hz hlt => by simp [slBlock] at hz; omega
        have t4 := r1.tab.kept k4
        have t4g := t4.g
        have ho4 := t4.own
        rw [hl2] at ho4
        refine mwalk (both t4g hgn) ?_
        generalize hM : ((W.length : Int) - ((i : Int) + 1)).toNat = M
        generalize hC : ((cap : Int) - ((i : Int) + 1)).toNat = C
        have hMl : M = W.length - (i + 1) := by omega
        have hs4 := ho4.sl.sub (k := i + 1) (m := M) (cap' := C) (ex' := ex) (by omega) (by omega) hex
        have hf2 := flatW_len W2
        have hsl : ((flat encW W2).drop ((i + 1) * 9)).take (M * 9) = (flat encW W2).drop ((i + 1) * 9) := List.take_of_length_le (by rw [List.length_drop]; omega)
        rw [hsl] at hs4
        have hw1 : ∀ z, slBlock w1 = some z → H2.next ≤ z := fun z hz => by
          rcases s4 with e | e
          · rw [e] at hz; simp [slBlock] at hz; omega
          · rw [e] at hz; simp at hz; omega
        have hn4 := k4.next
        refine Dq.appendL (own := o4) (new := ((flat encW W2).drop ((i + 1) * 9))) (q := M) rfl met_none (by simp (disch := omega) [t4g, -getElem?_pos, wrapI64, tdivN, tmodN, ipos, ineg, dpos, dneg, slc_l, slc_h, slc_lh, slc_hm, slc_lhm, slc_0, slcR_some, slcR_none, cutS_ok, cutA_ok, byteAt_ok]; first | done | (repeat' (first | rfl | apply And.intro))) ⟨_, rfl, by simp; first | done | (repeat' (first | rfl | apply And.intro))⟩ rfl (by kernel_rfl) (by kernel_rfl) (hs4.src') hs4.len (List.all_eq_true.2 fun x hx => List.all_eq_true.1 r1.one x (List.mem_of_mem_drop hx)) (by omega) (by omega) fun w2 H5 o5 b5 s5 z5 => ?_
        have k5 : Keep H2 H5 := k4.butOne b5 fun z hz hlt => by have := hw1 z hz; omega
        have t5 := r1.tab.kept k5
        have t5g := t5.g
        have hp5 := t5.lt
        have hn5 := k5.next
        have hp2 := r1.tab.lt
        have hq2 := r2.next
        obtain ⟨wa, wc, wx, rfl, _⟩ := o5.form
        refine mwalk t5g ?_
        refine walk none0 ?_
        have hcs : [] ++ List.take (i * 9) (flat encW W2) ++ List.drop ((i + 1) * 9) (flat encW W2) = flat encW (W.eraseIdx i) := by
          rw [← herase, List.eraseIdx_eq_take_drop_succ, flat_app, flat_takeN encW_len, flat_dropN encW_len, List.nil_append]
        have hw2 : ∀ z, slBlock (.slice wa (0 + i + M) wc wx) = some z → H2.next ≤ z := fun z hz => by
          rcases s5 with e | e
          · rw [e] at hz; exact hw1 z hz
          · rw [e] at hz; injection hz with hz; omega
        rw [hcs] at o5
        have hcnt : 0 + i + M = (W.eraseIdx i).length := by omega
        rw [hcnt] at o5 hw2 z5
        have hcnt' : i + M = (W.eraseIdx i).length := by omega
        rw [hcnt']
        have u5 : Upd (tabR m (.slice (some (b, o)) W.length cap ex)) H1 H5 := r2.trans k5 fun z _ h => h.elim
        have hpw : ∀ z, slBlock (.slice wa (W.eraseIdx i).length wc wx) = some z → z ≠ m := fun z hz e => by have := hw2 z hz; omega
        have u6 : Upd (tabR m (.slice (some (b, o)) W.length cap ex)) H1 (H5.set m (.cells [.slice wa (W.eraseIdx i).length wc wx, .int .i64 next, .int .i64 many, .int .i64 blocks] 32 true false)) := u5.set _ (by omega) fun _ => .inl rfl
        have hF : Fro H1 (.slice (some (b, o)) W.length cap ex) (.slice wa (W.eraseIdx i).length wc wx) := fun z hz => .inr (by have := hw2 z hz; omega)
        refine .inr (.inr ⟨h0, g1, g2, rfl, .slice wa (W.eraseIdx i).length wc wx, h.turn ⟨Heap.get_set_same _ _ _, o5.keep (Nat.le_refl _) fun z hz _ => ?_, fun e => hpw _ e rfl, fun z hz => ?_, by simpa using hp5⟩ u6 hF fun j w hj => ?_, u6, footR_turn hF fun j w hj => ?_⟩)
        · rw [Heap.get_set, if_neg (fun e => hpw z hz e)]
        · rcases z5 z hz with h' | h'
          · rcases z4 z h' with h'' | h''
            · simp [slBlock] at h''
              have := b4.1
              have := b5.1
              simp at *; omega
            · have := b5.1
              simp; omega
          · simpa using h'
        · obtain ⟨k, hk⟩ := hW2 j w hj
          exact .inl ⟨k, w.1, hk, rfl, rfl⟩
        · obtain ⟨k, hk⟩ := hW2 j w hj
          exact .inl ⟨k, w.1, hk⟩
      · refine walk (both hgn (both q2n (both p2n (both p3n (both l2n (both l3n (both hiW (both hiI (both g1 g2))))))))) ?_
        exact .inr (.inl ⟨h0, fun hc => g2 hc.2, rfl, r1, r2⟩)
    · refine walk (both hgn (both q2n (both p2n (both p3n (both l2n (both l3n (both hiW (both hiI g1)))))))) ?_
      exact .inr (.inl ⟨h0, fun hc => g1 hc.1, rfl, r1, r2⟩)
end
end Go.Abs

/- Chapter 06: the reference's Write and Truncate, walked. -/
namespace Go.Abs
open Go.Proofs
set_option maxRecDepth 100000
set_option linter.unusedVariables false
set_option linter.unusedSimpArgs false

section
variable {P : Program} {prims : Prims} {N : Nat} {ops : Array Oper} {t t0 : TypeId} {pos : String} {after : Array Edge} {os : List Oper} {e : Nat → AV} {H : Heap} {K : (Nat → AV) → Heap → Prop}
/-- A part of a block written. -/
theorem Oq.storePart {x y : Operand} {b o : Nat} {vs c : List AV} {el : TypeId} {mk : Bool} (hx : ev P (tab N e) x = some (.ptr (some (b, o)))) (hy : ev P (tab N e) y = some (.agg vs)) (hb : H.get b = some (.cells c el true mk)) (hl : o + vs.length ≤ c.length) (h0 : 0 < vs.length) (hone : vs.all AV.one = true)
    (ht : tsz P t0 = some vs.length) (h : Oq P prims N ops os e (H.set b (.cells (c.take o ++ (vs ++ c.drop (o + vs.length))) el true mk)) K) : Oq P prims N ops ({ dst := none, op := .store t0 x y, type := t, pos := pos, after := after, guard := none } :: os) e H K := by
  refine Oq.o0 (v := .undef) (H' := H.set b (.cells (c.take o ++ (vs ++ c.drop (o + vs.length))) el true mk)) ?_ h
  rw [opR_store, hx, hy, storeR_ptr]
  simp only [AV.cells, ht, if_true]
  rw [writeCells_eq hb hl h0 hone]
end
section
variable {H H' : Heap} {m : Nat} {slv slv' : AV} {W : List NW} {next next' many blocks : Int} {c : Nat}
/-- The bytes of a node turned. -/
theorem RefS.putF {b o cap i : Nat} {ex : Option Nat} {cc : List AV} {x x' : Nd} {s1 s2 u1 u2 : AV} (h : RefS H m (.slice (some (b, o)) W.length cap ex) W next many blocks) (hw : W[i]? = some (x, s1, s2)) (hg : H.get b = some (.cells cc 59 true false)) (hc : (cc.drop o).take (W.length * 9) = flat encW W) (hl : o + i * 9 + 9 ≤ cc.length)
    (hr : RefR H (.agg [u1, u2]) x'.B x'.Has) (hb : ∀ z, blkOf (.agg [u1, u2]) z → z < H.next ∧ z ≠ m ∧ b ≠ z) (hy : encW (x', u1, u2) = ((encW (x, s1, s2)).set 5 u1).set 6 u2) :
    RefS (H.set b (.cells (cc.take (o + i * 9 + 5) ++ ([u1, u2] ++ cc.drop (o + i * 9 + 5 + 2))) 59 true false)) m (.slice (some (b, o)) W.length cap ex) (W.set i (x', u1, u2)) next many blocks ∧ Upd (tabR m (.slice (some (b, o)) W.length cap ex)) H (H.set b (.cells (cc.take (o + i * 9 + 5) ++ ([u1, u2] ++ cc.drop (o + i * 9 + 5 + 2))) 59 true false)) := by
  have hi := lt_of_getW hw
  obtain ⟨p1, p2⟩ := put2 (a := u1) (b := u2) hc hw hl hy
  have u : Upd (tabR m (.slice (some (b, o)) W.length cap ex)) H (H.set b (.cells (cc.take (o + i * 9 + 5) ++ ([u1, u2] ++ cc.drop (o + i * 9 + 5 + 2))) 59 true false)) := Upd.rfl.set _ (h.tab.bl b rfl) fun _ => .inr rfl
  refine ⟨h.turn (h.tab.putC hi hg p2 p1) u (fun z hz => .inl hz) fun j w hj => ?_, u⟩
  by_cases e : i = j
  · subst e
    rw [List.getElem?_set_self hi] at hj
    injection hj with hj
    subst hj
    refine .inr ⟨hr.upd (fp := fun z => z = b) (Upd.rfl.set _ (h.tab.bl b rfl) fun _ => rfl) fun z hz e => (hb z hz).2.2 e.symm, fun z hz => ?_⟩
    obtain ⟨g1, g2, g3⟩ := hb z hz
    exact ⟨by simpa using g1, g2, fun e => g3 (by simpa [slBlock] using e)⟩
  · rw [List.getElem?_set_ne e] at hj
    exact .inl ⟨j, w.1, hj, rfl, rfl⟩
theorem Write33_no (h : TabW H m slv W next many blocks) (hl : W.length ≤ 100000) {n : Int} (off : Int) (bv : AV) (hn : ∀ x ∈ ndw W, x.ino ≠ n) : Cl Try.prog pr06 33 [.ptr (some (m, 0)), .int .i64 n, .int .i64 off, bv] H fun v H' => v = .int .i64 2 ∧ H' = H := by
  refine Cl.enter Try.func33 rfl rfl Try.ntmps33 (by simp) ?_
  refine walk none0 ?_
  refine (file46_no h hl hn).mono fun v H1 _ ⟨ea, eb⟩ => ?_
  subst ea; subst eb
  refine walk none0 ?_
  exact ⟨rfl, rfl⟩
theorem Write33_kind (h : TabW H m slv W next many blocks) (f : Fine (ndw W) next many blocks c) {i : Nat} {w : NW} (hw : W[i]? = some w) (hk : w.1.kind ≠ 1) (off : Int) (bv : AV) : Cl Try.prog pr06 33 [.ptr (some (m, 0)), .int .i64 w.1.ino, .int .i64 off, bv] H fun v H' => v = .int .i64 22 ∧ H' = H := by
  refine Cl.enter Try.func33 rfl rfl Try.ntmps33 (by simp) ?_
  refine walk none0 ?_
  refine (file46_yes h f hw).mono fun v H1 _ ⟨ea, eb⟩ => ?_
  subst ea; subst eb
  simp only [if_neg hk]
  refine walk none0 ?_
  exact ⟨rfl, rfl⟩
theorem Truncate34_no (h : TabW H m slv W next many blocks) (hl : W.length ≤ 100000) {n : Int} (k : Int) (hn : ∀ x ∈ ndw W, x.ino ≠ n) : Cl Try.prog pr06 34 [.ptr (some (m, 0)), .int .i64 n, .int .i64 k] H fun v H' => v = .int .i64 2 ∧ H' = H := by
  refine Cl.enter Try.func34 rfl rfl Try.ntmps34 (by simp) ?_
  refine walk none0 ?_
  refine (file46_no h hl hn).mono fun v H1 _ ⟨ea, eb⟩ => ?_
  subst ea; subst eb
  refine walk none0 ?_
  exact ⟨rfl, rfl⟩
theorem Truncate34_kind (h : TabW H m slv W next many blocks) (f : Fine (ndw W) next many blocks c) {i : Nat} {w : NW} (hw : W[i]? = some w) (hk : w.1.kind ≠ 1) (k : Int) : Cl Try.prog pr06 34 [.ptr (some (m, 0)), .int .i64 w.1.ino, .int .i64 k] H fun v H' => v = .int .i64 22 ∧ H' = H := by
  refine Cl.enter Try.func34 rfl rfl Try.ntmps34 (by simp) ?_
  refine walk none0 ?_
  refine (file46_yes h f hw).mono fun v H1 _ ⟨ea, eb⟩ => ?_
  subst ea; subst eb
  simp only [if_neg hk]
  refine walk none0 ?_
  exact ⟨rfl, rfl⟩
theorem footR_setF {i n : Nat} {w w' : NW} (hw : W[i]? = some w) (hn : ∀ z, blkOf (.agg [w'.2.1, w'.2.2]) z → footR m slv W z ∨ n ≤ z) : ∀ z, footR m slv (W.set i w') z → footR m slv W z ∨ n ≤ z := footR_turn (fun z hz => .inl hz) fun j v hj => by
  rw [List.getElem?_set] at hj
  split at hj
  · split at hj
    · injection hj with hj
      subst hj
      exact .inr hn
    · cases hj
  · exact .inl ⟨j, v.1, hj⟩
set_option maxHeartbeats 1000000 in
theorem Write33_yes (h : RefS H m slv W next many blocks) (f : Fine (ndw W) next many blocks c) {i : Nat} {x : Nd} {s1 s2 : AV} (hw : W[i]? = some (x, s1, s2)) (hk : x.kind = 1) (off : Int) (ho : i64 off) (b : List UInt8) (hbl : b.length ≤ 300) (bv : AV) (hb : Sl H 1 bv b.length (cellsOfBytes b)) :
    Cl Try.prog pr06 33 [.ptr (some (m, 0)), .int .i64 x.ino, .int .i64 off, bv] H fun v H' => v = .int .i64 (wErr (needN (hasF x.Has) off b.length) off b.length (blocks - usedN (ndw W))) ∧ ∃ B' Has' u1 u2, WR x.B x.Has off b (blocks - usedN (ndw W)) B' Has' ∧
      RefS H' m slv (W.set i ({ x with B := B', Has := Has' }, u1, u2)) next many blocks ∧ Upd (tabR m slv) H H' ∧ ∀ z, footR m slv (W.set i ({ x with B := B', Has := Has' }, u1, u2)) z → footR m slv W z ∨ H.next ≤ z := by
  have hB := f.by' x (List.mem_of_getElem? (ndw_get hw))
  have hiW := lt_of_getW hw
  have hiI : (i : Int) < W.length := by omega
  refine Cl.enter Try.func33 rfl rfl Try.ntmps33 (by simp) ?_
  refine walk none0 ?_
  refine (file46_yes h.tab f hw).mono fun v H1 _ ⟨ea, eb⟩ => ?_
  subst ea; subst eb
  simp only [if_pos hk]
  refine walk none0 ?_
  refine (Room43_ok h f).mono fun v H2 _ ⟨ea, k2⟩ => ?_
  subst ea
  have h2 := h.kept k2
  have hb2 := hb.kept k2
  have hg2 := h2.tab.g
  obtain ⟨bb, o, cap, ex, cc, rfl, _, hex, hbn, q2, q3, q4, q5, q6⟩ := h2.tab.node hw
  have q9 : o + i * 9 + 5 < cc.length := by omega
  have q11 := two_of q4 q6
  simp only [] at q11
  refine walk (both hg2 (both q2 (both q9 (both q11 (both hiW hiI))))) ?_
  refine (rwrite_ok x.B x.Has hB.1 hB.2 off (blocks - usedN (ndw W)) ho b hbl bv _ H2 (h2.rf i _ hw) hb2).mono fun v H3 _ ⟨k3, u, B', Has', hu, hru, ea, hWR⟩ => ?_
  obtain ⟨u1, u2, rfl⟩ := hru.lt
  obtain ⟨one1, one2⟩ := refR_one hru
  subst ea
  unfold wErr
  generalize (if off < 0 then (22 : Int) else if off > 65536 ∨ (b.length : Int) > 65536 - off then 27 else if needN (hasF x.Has) off b.length > blocks - usedN (ndw W) then 28 else 0) = er
  generalize (if off < 0 ∨ off > 65536 ∨ (b.length : Int) > 65536 - off ∨ needN (hasF x.Has) off b.length > blocks - usedN (ndw W) then 0 else needN (hasF x.Has) off b.length) = cn0
  refine walk none0 ?_
  have one12 : [u1, u2].all AV.one = true := by simp only [List.all_cons, List.all_nil, one1, one2, Bool.and_true]
  have gF : (H3.push (.cells [.slice none 0 0 none, .slice none 0 0 none] 56 true false)).get H3.next = some (.cells [.slice none 0 0 none, .slice none 0 0 none] 56 true false) := by simp
  refine Oq.storeFull (b := H3.next) (vs := [u1, u2]) (by simp [gF]) (by simp [gF]) (by simp [gF]; exact ⟨rfl, rfl, rfl⟩) (by simp) (by simp) (one12) (by simp) ?_
  have k4 : Keep H3 ((H3.push (.cells [.slice none 0 0 none, .slice none 0 0 none] 56 true false)).set H3.next (.cells [u1, u2] 56 true false)) := (Upd.rfl.push _).set _ (by simp) (by omega)
  have g4 : ((H3.push (.cells [.slice none 0 0 none, .slice none 0 0 none] 56 true false)).set H3.next (.cells [u1, u2] 56 true false)).get H3.next = some (.cells [u1, u2] 56 true false) := Heap.get_set_same _ _ _
  generalize ((H3.push (.cells [.slice none 0 0 none, .slice none 0 0 none] 56 true false)).set H3.next (.cells [u1, u2] 56 true false)) = H4 at *
  have K4 : Keep H1 H4 := (k2.then k3).then k4
  have h4 := h.kept K4
  have hru4 := hru.kept k4
  have hg4 := h4.tab.g
  have hn4 := K4.next
  have hn3 := k4.next
  have hk3n := k3.next
  obtain ⟨b', o', cap', ex', cn, en, _, _, _, q2n, _, q4n, q5n, q6n⟩ := h4.tab.node hw
  simp only [AV.slice.injEq, Option.some.injEq, Prod.mk.injEq] at en
  obtain ⟨⟨rfl, rfl⟩, _, rfl, rfl⟩ := en
  have q9n : o + i * 9 + 5 < cn.length := by omega
  have hbk : ∀ z, blkOf (.agg [u1, u2]) z → z < H4.next ∧ z ≠ m ∧ bb ≠ z := fun z hz => by
    rcases hu z hz with g | ⟨g, g'⟩
    · obtain ⟨r1, r2, r3⟩ := h4.fb i _ hw z g
      exact ⟨r1, r2, fun e => r3 (by rw [e]; rfl)⟩
    · have := h.tab.lt
      have := h.tab.bl bb rfl
      have := (k2.then k3).next
      exact ⟨by omega, by omega, by omega⟩
  refine walk none0 ?_
  refine Wq.regionD [0, 1, 2, 3, 4, 5, 6, 7, 8] (by kernel_rfl) ?_
  refine walk (both hg4 (both g4 (both q2n (both q9n (both hiW hiI))))) ?_
  obtain ⟨r1, r2⟩ := h4.putF (x' := { x with B := B', Has := Has' }) hw q2n q5n q4n hru4 hbk rfl
  refine Oq.storePart (b := bb) (o := o + i * 9 + 5) (vs := [u1, u2]) (c := cn) (by simp) (by simp) q2n (by simp; omega) (by simp) one12 (by simp) ?_
  refine walk none0 ?_
  have uF : Upd (tabR m (.slice (some (bb, o)) W.length cap ex)) H1 (H4.set bb (.cells (cn.take (o + i * 9 + 5) ++ ([u1, u2] ++ cn.drop (o + i * 9 + 5 + 2))) 59 true false)) := (Upd.of K4).trans r2 fun z _ hz => hz
  have fF : ∀ z, footR m (.slice (some (bb, o)) W.length cap ex) (W.set i ({ x with B := B', Has := Has' }, u1, u2)) z → footR m (.slice (some (bb, o)) W.length cap ex) W z ∨ H1.next ≤ z := footR_setF hw fun z hz => by
    rcases hu z hz with g | ⟨g, _⟩
    · exact .inl (.inr (.inr ⟨i, _, hw, g⟩))
    · have := (k2.then k3).next
      exact .inr (by omega)
  exact ⟨rfl, B', Has', u1, u2, hWR, r1, uF, fF⟩
set_option maxHeartbeats 1000000 in
theorem Truncate34_yes (h : RefS H m slv W next many blocks) (f : Fine (ndw W) next many blocks c) {i : Nat} {x : Nd} {s1 s2 : AV} (hw : W[i]? = some (x, s1, s2)) (hk : x.kind = 1) (n : Int) (hn : i64 n) :
    Cl Try.prog pr06 34 [.ptr (some (m, 0)), .int .i64 x.ino, .int .i64 n] H fun v H' => v = .int .i64 (tE n) ∧ ∃ u1 u2,
      RefS H' m slv (W.set i ({ x with B := tB x.B n, Has := tH x.Has n }, u1, u2)) next many blocks ∧ Upd (tabR m slv) H H' ∧ ∀ z, footR m slv (W.set i ({ x with B := tB x.B n, Has := tH x.Has n }, u1, u2)) z → footR m slv W z ∨ H.next ≤ z := by
  have hB := f.by' x (List.mem_of_getElem? (ndw_get hw))
  have hiW := lt_of_getW hw
  have hiI : (i : Int) < W.length := by omega
  refine Cl.enter Try.func34 rfl rfl Try.ntmps34 (by simp) ?_
  refine walk none0 ?_
  refine (file46_yes h.tab f hw).mono fun v H1 _ ⟨ea, eb⟩ => ?_
  subst ea; subst eb
  simp only [if_pos hk]
  refine walk none0 ?_
  have hg2 := h.tab.g
  obtain ⟨bb, o, cap, ex, cc, rfl, _, hex, hbn, q2, q3, q4, q5, q6⟩ := h.tab.node hw
  have q9 : o + i * 9 + 5 < cc.length := by omega
  have q11 := two_of q4 q6
  simp only [] at q11
  refine walk (both hg2 (both q2 (both q9 (both q11 (both hiW hiI))))) ?_
  refine (rtrunc_ok x.B x.Has hB.1 (by omega) n hn _ H1 (h.rf i _ hw)).mono fun v H3 _ ⟨k3, u, hu, hru, ea⟩ => ?_
  obtain ⟨u1, u2, rfl⟩ := hru.lt
  obtain ⟨one1, one2⟩ := refR_one hru
  subst ea
  change RefR H3 (.agg [u1, u2]) (tB x.B n) (tH x.Has n) at hru
  unfold tE
  generalize (if n < 0 then (22 : Int) else if n > 65536 then 27 else 0) = er
  generalize (if n < 0 ∨ n > 65536 then (0 : Int) else (x.Has.count true : Int) - (cutH x.Has n.toNat).count true) = cn0
  refine walk none0 ?_
  have one12 : [u1, u2].all AV.one = true := by simp only [List.all_cons, List.all_nil, one1, one2, Bool.and_true]
  have gF : (H3.push (.cells [.slice none 0 0 none, .slice none 0 0 none] 56 true false)).get H3.next = some (.cells [.slice none 0 0 none, .slice none 0 0 none] 56 true false) := by simp
  refine Oq.storeFull (b := H3.next) (vs := [u1, u2]) (by simp [gF]) (by simp [gF]) (by simp [gF]; exact ⟨rfl, rfl, rfl⟩) (by simp) (by simp) (one12) (by simp) ?_
  have k4 : Keep H3 ((H3.push (.cells [.slice none 0 0 none, .slice none 0 0 none] 56 true false)).set H3.next (.cells [u1, u2] 56 true false)) := (Upd.rfl.push _).set _ (by simp) (by omega)
  have g4 : ((H3.push (.cells [.slice none 0 0 none, .slice none 0 0 none] 56 true false)).set H3.next (.cells [u1, u2] 56 true false)).get H3.next = some (.cells [u1, u2] 56 true false) := Heap.get_set_same _ _ _
  generalize ((H3.push (.cells [.slice none 0 0 none, .slice none 0 0 none] 56 true false)).set H3.next (.cells [u1, u2] 56 true false)) = H4 at *
  have K4 : Keep H1 H4 := (k3).then k4
  have h4 := h.kept K4
  have hru4 := hru.kept k4
  have hg4 := h4.tab.g
  have hn4 := K4.next
  have hn3 := k4.next
  have hk3n := k3.next
  obtain ⟨b', o', cap', ex', cn, en, _, _, _, q2n, _, q4n, q5n, q6n⟩ := h4.tab.node hw
  simp only [AV.slice.injEq, Option.some.injEq, Prod.mk.injEq] at en
  obtain ⟨⟨rfl, rfl⟩, _, rfl, rfl⟩ := en
  have q9n : o + i * 9 + 5 < cn.length := by omega
  have hbk : ∀ z, blkOf (.agg [u1, u2]) z → z < H4.next ∧ z ≠ m ∧ bb ≠ z := fun z hz => by
    rcases hu z hz with g | ⟨g, g'⟩
    · obtain ⟨r1, r2, r3⟩ := h4.fb i _ hw z g
      exact ⟨r1, r2, fun e => r3 (by rw [e]; rfl)⟩
    · have := h.tab.lt
      have := h.tab.bl bb rfl
      have := (k3).next
      exact ⟨by omega, by omega, by omega⟩
  refine walk none0 ?_
  refine Wq.regionD [0, 1, 2, 3, 4, 5, 6, 7, 8] (by kernel_rfl) ?_
  refine walk (both hg4 (both g4 (both q2n (both q9n (both hiW hiI))))) ?_
  obtain ⟨r1, r2⟩ := h4.putF (x' := { x with B := tB x.B n, Has := tH x.Has n }) hw q2n q5n q4n hru4 hbk rfl
  refine Oq.storePart (b := bb) (o := o + i * 9 + 5) (vs := [u1, u2]) (c := cn) (by simp) (by simp) q2n (by simp; omega) (by simp) one12 (by simp) ?_
  refine walk none0 ?_
  have uF : Upd (tabR m (.slice (some (bb, o)) W.length cap ex)) H1 (H4.set bb (.cells (cn.take (o + i * 9 + 5) ++ ([u1, u2] ++ cn.drop (o + i * 9 + 5 + 2))) 59 true false)) := (Upd.of K4).trans r2 fun z _ hz => hz
  have fF : ∀ z, footR m (.slice (some (bb, o)) W.length cap ex) (W.set i ({ x with B := tB x.B n, Has := tH x.Has n }, u1, u2)) z → footR m (.slice (some (bb, o)) W.length cap ex) W z ∨ H1.next ≤ z := footR_setF hw fun z hz => by
    rcases hu z hz with g | ⟨g, _⟩
    · exact .inl (.inr (.inr ⟨i, _, hw, g⟩))
    · have := (k3).next
      exact .inr (by omega)
  exact ⟨rfl, u1, u2, r1, uF, fF⟩
end
end Go.Abs

/- Chapter 06: acts on both sides, as functions of lists of nodes. -/
namespace Go.Abs
open Go.Proofs
set_option maxRecDepth 100000
set_option linter.unusedVariables false
set_option linter.unusedSimpArgs false

/-- What a list of nodes says of a number. -/
def onN {α : Type} (N : List Nd) (n : Int) (no : α) (yes : Nat → Nd → α) : α := match fnd N n with
  | none => no
  | some i => match N[i]? with
    | none => no
    | some x => yes i x
theorem onN_no {α : Type} {N : List Nd} {n : Int} {no : α} {yes : Nat → Nd → α} (h : fnd N n = none) : onN N n no yes = no := by simp [onN, h]
theorem onN_yes {α : Type} {N : List Nd} {n : Int} {no : α} {yes : Nat → Nd → α} {i : Nat} {x : Nd} (h : fnd N n = some i) (hx : N[i]? = some x) : onN N n no yes = yes i x := by simp [onN, h, hx]
def linkE (N : List Nd) (n : Int) : Int := onN N n 2 fun _ x => if 32 ≤ x.links then 31 else 0
def linkN (N : List Nd) (n : Int) : List Nd := onN N n N fun i x => if 32 ≤ x.links then N else N.set i { x with links := x.links + 1 }
def holdE (N : List Nd) (n : Int) : Int := onN N n 2 fun _ _ => 0
def holdN (N : List Nd) (n : Int) : List Nd := onN N n N fun i x => N.set i { x with holds := x.holds + 1 }
def lessN (N : List Nd) (i : Nat) (x' : Nd) (k : Int) : List Nd := if k = 0 then N else if x'.links = 0 ∧ x'.holds = 0 then N.eraseIdx i else N.set i x'
def unlinkE (N : List Nd) (n : Int) : Int := onN N n 2 fun _ x => if x.links = 0 then 22 else 0
def unlinkN (N : List Nd) (n : Int) : List Nd := onN N n N fun i x => lessN N i { x with links := x.links - 1 } x.links
def releaseE (N : List Nd) (n : Int) : Int := onN N n 2 fun _ x => if x.holds = 0 then 22 else 0
def releaseN (N : List Nd) (n : Int) : List Nd := onN N n N fun i x => lessN N i { x with holds := x.holds - 1 } x.holds
def writeE (N : List Nd) (blocks n off : Int) (b : List UInt8) : Int := onN N n 2 fun _ x => if x.kind = 1 then wErr (needN (hasF x.Has) off b.length) off b.length (blocks - usedN N) else 22
def WriteN (N : List Nd) (blocks n off : Int) (b : List UInt8) (N' : List Nd) : Prop := onN N n (N' = N) fun i x => if x.kind = 1 then ∃ B' Has', WR x.B x.Has off b (blocks - usedN N) B' Has' ∧ N' = N.set i { x with B := B', Has := Has' } else N' = N
def truncE (N : List Nd) (n k : Int) : Int := onN N n 2 fun _ x => if x.kind = 1 then tE k else 22
def truncN (N : List Nd) (n k : Int) : List Nd := onN N n N fun i x => if x.kind = 1 then N.set i { x with B := tB x.B k, Has := tH x.Has k } else N
def makeT (N : List Nd) (next many k : Int) (t : List UInt8) : Int × Int := if wrongE k t ≠ 0 then (0, wrongE k t) else if many ≤ (N.length : Int) then (0, 28) else (next, 0)
def makeN (N : List Nd) (next many k : Int) (t : List UInt8) : List Nd := if wrongE k t = 0 ∧ (N.length : Int) < many then N ++ [newNd next k t] else N
def makeX (N : List Nd) (next many k : Int) (t : List UInt8) : Int := if wrongE k t = 0 ∧ (N.length : Int) < many then next + 1 else next
def ActR (H H' : Heap) (s r0 : Nat) (Q : List (Nd × Ph)) (many blocks : Int) (N' : List Nd) (next' : Int) : Prop :=
  ∃ Q', nds Q' = N' ∧ StoR H' s r0 Q' next' many blocks (usedN N') ∧ Upd (footS s r0 Q) H H' ∧ ∀ z, footS s r0 Q' z → footS s r0 Q z ∨ H.next ≤ z
def ActW (H H' : Heap) (m : Nat) (slv : AV) (W : List NW) (many blocks : Int) (N' : List Nd) (next' : Int) : Prop :=
  ∃ slv' W', ndw W' = N' ∧ RefS H' m slv' W' next' many blocks ∧ Upd (tabR m slv) H H' ∧ ∀ z, footR m slv' W' z → footR m slv W z ∨ H.next ≤ z
section
variable {H H' : Heap} {s r0 : Nat} {Q : List (Nd × Ph)} {next many blocks : Int} {c : Nat}
theorem ActR.same (h : StoR H s r0 Q next many blocks (usedN (nds Q))) : ActR H H s r0 Q many blocks (nds Q) next := ⟨Q, rfl, h, Upd.rfl, fun z hz => .inl hz⟩
theorem nds_erase {i : Nat} : nds (Q.eraseIdx i) = (nds Q).eraseIdx i := by simp [nds, List.eraseIdx_eq_take_drop_succ, List.map_take, List.map_drop]
theorem ActR.less {v : AV} {i : Nat} {x x' : Nd} {p : Ph} {k : Int} (h : StoR H s r0 Q next many blocks (usedN (nds Q))) (hq : Q[i]? = some (x, p)) (hH : x'.Has = x.Has) (hk : x'.kind = x.kind) (hL : LessR H H' s r0 Q next many blocks (usedN (nds Q)) i x x' p k v) :
    v = .int .i64 (if k = 0 then 22 else 0) ∧ ActR H H' s r0 Q many blocks (lessN (nds Q) i x' k) next := by
  unfold lessN
  rcases hL with ⟨g1, g2, rfl⟩ | ⟨g1, g2, g3, g4, g5⟩ | ⟨g1, g2, g3, g4, g5, g6⟩
  · rw [if_pos g1, if_pos g1]
    exact ⟨g2, ActR.same h⟩
  · rw [if_neg g1, if_neg g1, if_neg g2]
    refine ⟨g3, Q.set i (x', p), nds_set, ?_, g5, footS_set hq fun z hz => .inl (by rw [fpI_put hk] at hz; exact hz)⟩
    have := usedN_set (x' := x') (nds_get hq)
    rw [hH] at this
    rw [show usedN ((nds Q).set i x') = usedN (nds Q) by omega]
    exact g4
  · rw [if_neg g1, if_neg g1, if_pos ⟨g2, g3⟩]
    refine ⟨g4, Q.eraseIdx i, nds_erase, ?_, g6, fun z hz => .inl (footS_erase z hz)⟩
    have := usedN_erase (nds_get hq)
    rw [show (usedN ((nds Q).eraseIdx i) : Int) = (usedN (nds Q) : Int) - x.Has.count true by omega]
    exact g5
theorem Fine.used (f : Fine (nds Q) next many blocks c) : 0 ≤ (usedN (nds Q) : Int) ∧ (usedN (nds Q) : Int) ≤ 4096 := by
  have := f.us
  have := f.bb
  omega
theorem linkR (h : StoR H s r0 Q next many blocks (usedN (nds Q))) (hw : Wf H) (f : Fine (nds Q) next many blocks c) (n : Int) : Cl Try.prog pr06 23 [.ptr (some (s, 0)), .int .i64 n] H fun v H' => v = .int .i64 (linkE (nds Q) n) ∧ ActR H H' s r0 Q many blocks (linkN (nds Q) n) next := by
  cases hf : fnd (nds Q) n with
  | none =>
    simp only [linkE, linkN, onN_no hf]
    exact (Link23_no h (fnd_none hf)).mono fun v H1 _ ⟨ea, eb⟩ => by subst eb; exact ⟨ea, ActR.same h⟩
  | some i =>
    obtain ⟨x, hx, rfl, _⟩ := fnd_some hf
    obtain ⟨p, hq⟩ := nds_inv hx
    simp only [linkE, linkN, onN_yes hf hx]
    refine (Link23_yes h f hq).mono fun v H1 _ hL => ?_
    rcases hL with ⟨g, ea, eb⟩ | ⟨g, ea, eb⟩
    · subst eb
      rw [if_pos g, if_pos g]
      exact ⟨ea, ActR.same h⟩
    · rw [if_neg g, if_neg g]
      have hI := h.ino i _ hq
      have u : Upd (fun z => z = s ∨ fpI (x, p) z) H H1 := by rw [eb]; exact Upd.rfl.set _ (hw.lt hI.g) fun _ => .inr (.inl rfl)
      obtain ⟨o1, o2⟩ := h.off i _ hq
      have := usedN_set (x' := { x with links := x.links + 1 }) hx
      refine ⟨ea, Q.set i ({ x with links := x.links + 1 }, p), nds_set, ?_, u.mono fun z _ hz => hz.elim .inl fun g => .inr (.inr ⟨i, _, hq, g⟩), footS_set hq fun z hz => .inl hz⟩
      rw [show usedN ((nds Q).set i { x with links := x.links + 1 }) = usedN (nds Q) by simp only [] at this; omega]
      refine h.turn hw hq ?_ u (by rw [eb]; exact hI.put rfl rfl rfl) rfl rfl fun z hz => .inl hz
      rw [eb, Heap.get_set_ne _ _ (fun e => o1 (.inl e))]
      exact h.g
theorem holdR (h : StoR H s r0 Q next many blocks (usedN (nds Q))) (hw : Wf H) (f : Fine (nds Q) next many blocks c) (n : Int) : Cl Try.prog pr06 25 [.ptr (some (s, 0)), .int .i64 n] H fun v H' => v = .int .i64 (holdE (nds Q) n) ∧ ActR H H' s r0 Q many blocks (holdN (nds Q) n) next := by
  cases hf : fnd (nds Q) n with
  | none =>
    simp only [holdE, holdN, onN_no hf]
    exact (Hold25_no h (fnd_none hf)).mono fun v H1 _ ⟨ea, eb⟩ => by subst eb; exact ⟨ea, ActR.same h⟩
  | some i =>
    obtain ⟨x, hx, rfl, _⟩ := fnd_some hf
    obtain ⟨p, hq⟩ := nds_inv hx
    simp only [holdE, holdN, onN_yes hf hx]
    refine (Hold25_yes h f hq).mono fun v H1 _ ⟨ea, eb⟩ => ?_
    have hI := h.ino i _ hq
    have u : Upd (fun z => z = s ∨ fpI (x, p) z) H H1 := by rw [eb]; exact Upd.rfl.set _ (hw.lt hI.g) fun _ => .inr (.inl rfl)
    obtain ⟨o1, o2⟩ := h.off i _ hq
    have := usedN_set (x' := { x with holds := x.holds + 1 }) hx
    refine ⟨ea, Q.set i ({ x with holds := x.holds + 1 }, p), nds_set, ?_, u.mono fun z _ hz => hz.elim .inl fun g => .inr (.inr ⟨i, _, hq, g⟩), footS_set hq fun z hz => .inl hz⟩
    rw [show usedN ((nds Q).set i { x with holds := x.holds + 1 }) = usedN (nds Q) by simp only [] at this; omega]
    refine h.turn hw hq ?_ u (by rw [eb]; exact hI.put rfl rfl rfl) rfl rfl fun z hz => .inl hz
    rw [eb, Heap.get_set_ne _ _ (fun e => o1 (.inl e))]
    exact h.g
theorem unlinkR (h : StoR H s r0 Q next many blocks (usedN (nds Q))) (hw : Wf H) (f : Fine (nds Q) next many blocks c) (n : Int) : Cl Try.prog pr06 24 [.ptr (some (s, 0)), .int .i64 n] H fun v H' => v = .int .i64 (unlinkE (nds Q) n) ∧ ActR H H' s r0 Q many blocks (unlinkN (nds Q) n) next := by
  cases hf : fnd (nds Q) n with
  | none =>
    simp only [unlinkE, unlinkN, onN_no hf]
    exact (Unlink24_no h (fnd_none hf)).mono fun v H1 _ ⟨ea, eb⟩ => by subst eb; exact ⟨ea, ActR.same h⟩
  | some i =>
    obtain ⟨x, hx, rfl, _⟩ := fnd_some hf
    obtain ⟨p, hq⟩ := nds_inv hx
    simp only [unlinkE, unlinkN, onN_yes hf hx]
    exact (Unlink24_yes h hw f hq f.used).mono fun v H1 _ hL => ActR.less h hq rfl rfl hL
theorem releaseR (h : StoR H s r0 Q next many blocks (usedN (nds Q))) (hw : Wf H) (f : Fine (nds Q) next many blocks c) (n : Int) : Cl Try.prog pr06 26 [.ptr (some (s, 0)), .int .i64 n] H fun v H' => v = .int .i64 (releaseE (nds Q) n) ∧ ActR H H' s r0 Q many blocks (releaseN (nds Q) n) next := by
  cases hf : fnd (nds Q) n with
  | none =>
    simp only [releaseE, releaseN, onN_no hf]
    exact (Release26_no h (fnd_none hf)).mono fun v H1 _ ⟨ea, eb⟩ => by subst eb; exact ⟨ea, ActR.same h⟩
  | some i =>
    obtain ⟨x, hx, rfl, _⟩ := fnd_some hf
    obtain ⟨p, hq⟩ := nds_inv hx
    simp only [releaseE, releaseN, onN_yes hf hx]
    exact (Release26_yes h hw f hq f.used).mono fun v H1 _ hL => ActR.less h hq rfl rfl hL
end
end Go.Abs

/- Chapter 06: acts on both sides, as functions of lists of nodes: the others. -/
namespace Go.Abs
open Go.Proofs
set_option maxRecDepth 100000
set_option linter.unusedVariables false
set_option linter.unusedSimpArgs false

section
variable {H H' : Heap} {s r0 : Nat} {Q : List (Nd × Ph)} {next many blocks : Int} {c : Nat}
theorem truncR (h : StoR H s r0 Q next many blocks (usedN (nds Q))) (hw : Wf H) (f : Fine (nds Q) next many blocks c) (n k : Int) (hk : i64 k) : Cl Try.prog pr06 28 [.ptr (some (s, 0)), .int .i64 n, .int .i64 k] H fun v H' => v = .int .i64 (truncE (nds Q) n k) ∧ ActR H H' s r0 Q many blocks (truncN (nds Q) n k) next := by
  cases hf : fnd (nds Q) n with
  | none =>
    simp only [truncE, truncN, onN_no hf]
    exact (Truncate28_no h k (fnd_none hf)).mono fun v H1 _ ⟨ea, eb⟩ => by subst eb; exact ⟨ea, ActR.same h⟩
  | some i =>
    obtain ⟨x, hx, rfl, _⟩ := fnd_some hf
    obtain ⟨p, hq⟩ := nds_inv hx
    simp only [truncE, truncN, onN_yes hf hx]
    by_cases hk1 : x.kind = 1
    · simp only [if_pos hk1]
      have hu := f.us
      refine (Truncate28_yes h hw f hq hk1 ⟨by omega, hu⟩ k hk).mono fun v H1 _ ⟨ea, p', g1, g2, g3⟩ => ⟨ea, Q.set i ({ x with B := tB x.B k, Has := tH x.Has k }, p'), nds_set, ?_, g1, g2⟩
      have := usedN_set (x' := { x with B := tB x.B k, Has := tH x.Has k }) hx
      simp only [] at this
      rw [show (usedN ((nds Q).set i { x with B := tB x.B k, Has := tH x.Has k }) : Int) = (usedN (nds Q) : Int) - (x.Has.count true - (tH x.Has k).count true) by omega]
      exact g3
    · simp only [if_neg hk1]
      exact (Truncate28_kind h f hq hk1 k).mono fun v H1 _ ⟨ea, eb⟩ => by subst eb; exact ⟨ea, ActR.same h⟩
theorem writeR (h : StoR H s r0 Q next many blocks (usedN (nds Q))) (hw : Wf H) (f : Fine (nds Q) next many blocks c) (n off : Int) (ho : i64 off) (b : List UInt8) (hbl : b.length ≤ 300) (bv : AV) (hb : Sl H 1 bv b.length (cellsOfBytes b)) (hd : ∀ z, slBlock bv = some z → ¬ footS s r0 Q z) :
    Cl Try.prog pr06 27 [.ptr (some (s, 0)), .int .i64 n, .int .i64 off, bv] H fun v H' => v = .int .i64 (writeE (nds Q) blocks n off b) ∧ Upd (footS s r0 Q) H H' ∧ ∀ N', WriteN (nds Q) blocks n off b N' → ActR H H' s r0 Q many blocks N' next ∧ (usedN N' : Int) ≤ blocks := by
  cases hf : fnd (nds Q) n with
  | none =>
    simp only [writeE, WriteN, onN_no hf]
    exact (Write27_no h off bv (fnd_none hf)).mono fun v H1 _ ⟨ea, eb⟩ => by subst eb; exact ⟨ea, Upd.rfl, fun N' e => by subst e; exact ⟨ActR.same h, f.us⟩⟩
  | some i =>
    obtain ⟨x, hx, rfl, _⟩ := fnd_some hf
    obtain ⟨p, hq⟩ := nds_inv hx
    simp only [writeE, WriteN, onN_yes hf hx]
    by_cases hk1 : x.kind = 1
    · simp only [if_pos hk1]
      have hu := f.us
      refine (Write27_yes h hw f hq hk1 ⟨by omega, hu⟩ off ho b hbl bv hb hd).mono fun v H1 _ ⟨ea, p', g1, g2, g3⟩ => ⟨ea, g1, ?_⟩
      rintro N' ⟨B', Has', hWR, rfl⟩
      obtain ⟨g4, g5⟩ := g3 B' Has' hWR
      have := usedN_set (x' := { x with B := B', Has := Has' }) hx
      simp only [] at this
      obtain ⟨q1, q2⟩ := wCnt_bd (hasF x.Has) off b.length (blocks - usedN (nds Q))
      refine ⟨⟨Q.set i ({ x with B := B', Has := Has' }, p'), nds_set, ?_, g1, g2 B' Has'⟩, by omega⟩
      rw [show (usedN ((nds Q).set i { x with B := B', Has := Has' }) : Int) = (usedN (nds Q) : Int) + wCnt (needN (hasF x.Has) off b.length) off b.length (blocks - usedN (nds Q)) by omega]
      exact g4
    · simp only [if_neg hk1]
      exact (Write27_kind h f hq hk1 off bv).mono fun v H1 _ ⟨ea, eb⟩ => by subst eb; exact ⟨ea, Upd.rfl, fun N' e => by subst e; exact ⟨ActR.same h, f.us⟩⟩
theorem makeR (h : StoR H s r0 Q next many blocks (usedN (nds Q))) (hw : Wf H) (f : Fine (nds Q) next many blocks c) (k : Int) (t : List UInt8) (ht : t.length ≤ 100000) :
    Cl Try.prog pr06 22 [.ptr (some (s, 0)), .int .i64 k, .str t] H fun v H' => v = .tuple [.int .i64 (makeT (nds Q) next many k t).1, .int .i64 (makeT (nds Q) next many k t).2] ∧ ActR H H' s r0 Q many blocks (makeN (nds Q) next many k t) (makeX (nds Q) next many k t) := by
  unfold makeT makeN makeX
  rw [nds_len]
  by_cases he : wrongE k t = 0
  · by_cases hf : many ≤ (Q.length : Int)
    · rw [if_neg (by simp [he]), if_pos hf, if_neg (by omega), if_neg (by omega)]
      exact (Make22_full h k t ht he hf).mono fun v H1 _ ⟨ea, eb⟩ => by subst eb; exact ⟨ea, ActR.same h⟩
    · rw [if_neg (by simp [he]), if_neg hf, if_pos (by omega), if_pos (by omega)]
      refine (Make22_ok h hw f k t he (by omega)).mono fun v H1 _ ⟨ea, p, g1, g2, g3⟩ => ⟨ea, Q ++ [(newNd next k t, p)], by simp [nds], ?_, g2, g3⟩
      rw [usedN_app]
      simp only [usedN, List.map_cons, List.map_nil, List.sum_cons, List.sum_nil, newNd, List.count_nil, Nat.add_zero]
      exact g1
  · rw [if_pos he, if_neg (by simp [he]), if_neg (by simp [he])]
    exact (Make22_wrong s k t ht he H).mono fun v H1 _ ⟨ea, eb⟩ => by subst eb; exact ⟨ea, ActR.same h⟩
end
section
variable {H H' : Heap} {m : Nat} {slv : AV} {W : List NW} {next many blocks : Int} {c : Nat}
theorem ActW.same (h : RefS H m slv W next many blocks) : ActW H H m slv W many blocks (ndw W) next := ⟨slv, W, rfl, h, Upd.rfl, fun z hz => .inl hz⟩
theorem ndw_erase {i : Nat} : ndw (W.eraseIdx i) = (ndw W).eraseIdx i := by simp [ndw, List.eraseIdx_eq_take_drop_succ, List.map_take, List.map_drop]
theorem ActW.less {v : AV} {i : Nat} {x x' : Nd} {s1 s2 : AV} {k : Int} (h : RefS H m slv W next many blocks) (hq : W[i]? = some (x, s1, s2)) (hL : LessW H H' m slv W next many blocks i x' s1 s2 k v) :
    v = .int .i64 (if k = 0 then 22 else 0) ∧ ActW H H' m slv W many blocks (lessN (ndw W) i x' k) next := by
  unfold lessN
  rcases hL with ⟨g1, g2, rfl⟩ | ⟨g1, g2, g3, g4, g5⟩ | ⟨g1, g2, g3, g4, slv', g5, g6, g7⟩
  · rw [if_pos g1, if_pos g1]
    exact ⟨g2, ActW.same h⟩
  · rw [if_neg g1, if_neg g1, if_neg g2]
    exact ⟨g3, slv, W.set i (x', s1, s2), ndw_set, g4, g5, footR_set hq⟩
  · rw [if_neg g1, if_neg g1, if_pos ⟨g2, g3⟩]
    exact ⟨g4, slv', W.eraseIdx i, ndw_erase, g5, g6, g7⟩
theorem Fine.lenW (f : Fine (ndw W) next many blocks c) : W.length ≤ 100000 := by
  have h1 := f.few
  have h2 := f.mb
  rw [ndw_len] at h1
  omega
theorem linkW (h : RefS H m slv W next many blocks) (f : Fine (ndw W) next many blocks c) (n : Int) : Cl Try.prog pr06 32 [.ptr (some (m, 0)), .int .i64 n, .bool true, .int .i64 1] H fun v H' => v = .int .i64 (linkE (ndw W) n) ∧ ActW H H' m slv W many blocks (linkN (ndw W) n) next := by
  cases hf : fnd (ndw W) n with
  | none =>
    simp only [linkE, linkN, onN_no hf]
    exact (Count32_no h.tab f.lenW true 1 (fnd_none hf)).mono fun v H1 _ ⟨ea, eb⟩ => by subst eb; exact ⟨ea, ActW.same h⟩
  | some i =>
    obtain ⟨x, hx, rfl, _⟩ := fnd_some hf
    obtain ⟨s1, s2, hq⟩ := ndw_inv hx
    simp only [linkE, linkN, onN_yes hf hx]
    refine (Count32_link h f hq).mono fun v H1 _ hL => ?_
    rcases hL with ⟨g, ea, eb⟩ | ⟨g, ea, g1, g2⟩
    · subst eb
      rw [if_pos g, if_pos g]
      exact ⟨ea, ActW.same h⟩
    · rw [if_neg g, if_neg g]
      exact ⟨ea, slv, _, ndw_set, g1, g2, footR_set hq⟩
theorem holdW (h : RefS H m slv W next many blocks) (f : Fine (ndw W) next many blocks c) (n : Int) : Cl Try.prog pr06 32 [.ptr (some (m, 0)), .int .i64 n, .bool false, .int .i64 1] H fun v H' => v = .int .i64 (holdE (ndw W) n) ∧ ActW H H' m slv W many blocks (holdN (ndw W) n) next := by
  cases hf : fnd (ndw W) n with
  | none =>
    simp only [holdE, holdN, onN_no hf]
    exact (Count32_no h.tab f.lenW false 1 (fnd_none hf)).mono fun v H1 _ ⟨ea, eb⟩ => by subst eb; exact ⟨ea, ActW.same h⟩
  | some i =>
    obtain ⟨x, hx, rfl, _⟩ := fnd_some hf
    obtain ⟨s1, s2, hq⟩ := ndw_inv hx
    simp only [holdE, holdN, onN_yes hf hx]
    exact (Count32_hold h f hq).mono fun v H1 _ ⟨ea, g1, g2⟩ => ⟨ea, slv, _, ndw_set, g1, g2, footR_set hq⟩
theorem unlinkW (h : RefS H m slv W next many blocks) (f : Fine (ndw W) next many blocks c) (n : Int) : Cl Try.prog pr06 32 [.ptr (some (m, 0)), .int .i64 n, .bool true, .int .i64 (-1)] H fun v H' => v = .int .i64 (unlinkE (ndw W) n) ∧ ActW H H' m slv W many blocks (unlinkN (ndw W) n) next := by
  cases hf : fnd (ndw W) n with
  | none =>
    simp only [unlinkE, unlinkN, onN_no hf]
    exact (Count32_no h.tab f.lenW true (-1) (fnd_none hf)).mono fun v H1 _ ⟨ea, eb⟩ => by subst eb; exact ⟨ea, ActW.same h⟩
  | some i =>
    obtain ⟨x, hx, rfl, _⟩ := fnd_some hf
    obtain ⟨s1, s2, hq⟩ := ndw_inv hx
    simp only [unlinkE, unlinkN, onN_yes hf hx]
    exact (Count32_unlink h f hq).mono fun v H1 _ hL => ActW.less h hq hL
theorem releaseW (h : RefS H m slv W next many blocks) (f : Fine (ndw W) next many blocks c) (n : Int) : Cl Try.prog pr06 32 [.ptr (some (m, 0)), .int .i64 n, .bool false, .int .i64 (-1)] H fun v H' => v = .int .i64 (releaseE (ndw W) n) ∧ ActW H H' m slv W many blocks (releaseN (ndw W) n) next := by
  cases hf : fnd (ndw W) n with
  | none =>
    simp only [releaseE, releaseN, onN_no hf]
    exact (Count32_no h.tab f.lenW false (-1) (fnd_none hf)).mono fun v H1 _ ⟨ea, eb⟩ => by subst eb; exact ⟨ea, ActW.same h⟩
  | some i =>
    obtain ⟨x, hx, rfl, _⟩ := fnd_some hf
    obtain ⟨s1, s2, hq⟩ := ndw_inv hx
    simp only [releaseE, releaseN, onN_yes hf hx]
    exact (Count32_release h f hq).mono fun v H1 _ hL => ActW.less h hq hL
theorem truncW (h : RefS H m slv W next many blocks) (f : Fine (ndw W) next many blocks c) (n k : Int) (hk : i64 k) : Cl Try.prog pr06 34 [.ptr (some (m, 0)), .int .i64 n, .int .i64 k] H fun v H' => v = .int .i64 (truncE (ndw W) n k) ∧ ActW H H' m slv W many blocks (truncN (ndw W) n k) next := by
  cases hf : fnd (ndw W) n with
  | none =>
    simp only [truncE, truncN, onN_no hf]
    exact (Truncate34_no h.tab f.lenW k (fnd_none hf)).mono fun v H1 _ ⟨ea, eb⟩ => by subst eb; exact ⟨ea, ActW.same h⟩
  | some i =>
    obtain ⟨x, hx, rfl, _⟩ := fnd_some hf
    obtain ⟨s1, s2, hq⟩ := ndw_inv hx
    simp only [truncE, truncN, onN_yes hf hx]
    by_cases hk1 : x.kind = 1
    · simp only [if_pos hk1]
      exact (Truncate34_yes h f hq hk1 k hk).mono fun v H1 _ ⟨ea, u1, u2, g1, g2, g3⟩ => ⟨ea, slv, _, ndw_set, g1, g2, g3⟩
    · simp only [if_neg hk1]
      exact (Truncate34_kind h.tab f hq hk1 k).mono fun v H1 _ ⟨ea, eb⟩ => by subst eb; exact ⟨ea, ActW.same h⟩
theorem writeW (h : RefS H m slv W next many blocks) (f : Fine (ndw W) next many blocks c) (n off : Int) (ho : i64 off) (b : List UInt8) (hbl : b.length ≤ 300) (bv : AV) (hb : Sl H 1 bv b.length (cellsOfBytes b)) :
    Cl Try.prog pr06 33 [.ptr (some (m, 0)), .int .i64 n, .int .i64 off, bv] H fun v H' => v = .int .i64 (writeE (ndw W) blocks n off b) ∧ ∃ N', WriteN (ndw W) blocks n off b N' ∧ ActW H H' m slv W many blocks N' next := by
  cases hf : fnd (ndw W) n with
  | none =>
    simp only [writeE, WriteN, onN_no hf]
    exact (Write33_no h.tab f.lenW off bv (fnd_none hf)).mono fun v H1 _ ⟨ea, eb⟩ => by subst eb; exact ⟨ea, _, rfl, ActW.same h⟩
  | some i =>
    obtain ⟨x, hx, rfl, _⟩ := fnd_some hf
    obtain ⟨s1, s2, hq⟩ := ndw_inv hx
    simp only [writeE, WriteN, onN_yes hf hx]
    by_cases hk1 : x.kind = 1
    · simp only [if_pos hk1]
      exact (Write33_yes h f hq hk1 off ho b hbl bv hb).mono fun v H1 _ ⟨ea, B', Has', u1, u2, hWR, g1, g2, g3⟩ => ⟨ea, _, ⟨B', Has', hWR, rfl⟩, slv, _, ndw_set, g1, g2, g3⟩
    · simp only [if_neg hk1]
      exact (Write33_kind h.tab f hq hk1 off bv).mono fun v H1 _ ⟨ea, eb⟩ => by subst eb; exact ⟨ea, _, rfl, ActW.same h⟩
theorem makeW (h : RefS H m slv W next many blocks) (f : Fine (ndw W) next many blocks c) (k : Int) (t : List UInt8) (ht : t.length ≤ 100000) :
    Cl Try.prog pr06 31 [.ptr (some (m, 0)), .int .i64 k, .str t] H fun v H' => v = .tuple [.int .i64 (makeT (ndw W) next many k t).1, .int .i64 (makeT (ndw W) next many k t).2] ∧ ActW H H' m slv W many blocks (makeN (ndw W) next many k t) (makeX (ndw W) next many k t) := by
  unfold makeT makeN makeX
  rw [ndw_len]
  refine (Make31_ok h f k t ht).mono fun v H1 _ hM => ?_
  rcases hM with ⟨g1, ea, eb⟩ | ⟨g1, g2, ea, slv', g3, g4, g5⟩
  · subst eb
    have hne : ¬ (wrongE k t = 0 ∧ (W.length : Int) < many) := fun hc => by
      rcases g1 with g | g
      · exact g hc.1
      · omega
    rw [if_neg hne, if_neg hne]
    refine ⟨?_, ActW.same h⟩
    rw [ea]
    by_cases he : wrongE k t = 0
    · rw [if_neg (by simp [he] : ¬ wrongE k t ≠ 0), if_neg (by simp [he] : ¬ wrongE k t ≠ 0), if_pos (g1.resolve_left (by simp [he]))]
    · rw [if_pos he, if_pos he]
  · have hne : ¬ many ≤ (W.length : Int) := by omega
    rw [if_neg (by simp [g1] : ¬ wrongE k t ≠ 0), if_neg hne, if_pos ⟨g1, g2⟩, if_pos ⟨g1, g2⟩]
    exact ⟨ea, slv', _, by simp [ndw, newNW], g3, g4, g5⟩
end
end Go.Abs

/- Chapter 06: what holds of each store still holds behind each act. -/
namespace Go.Abs
open Go.Proofs
set_option maxRecDepth 100000
set_option linter.unusedVariables false
set_option linter.unusedSimpArgs false

section
variable {N : List Nd} {next many blocks : Int} {c : Nat}
theorem Fine.more (f : Fine N next many blocks c) (hc : c < 1000) : Fine N next many blocks (c + 1) :=
  ⟨f.rise, f.bd, by have := f.nx; omega, f.kd, fun x hx => by have := f.ln x hx; omega, f.tg, f.by', f.nf, f.few, f.mb, f.bb, f.us, by omega, f.nt⟩
theorem mem_setN {i : Nat} {x' y : Nd} (h : y ∈ N.set i x') : y = x' ∨ y ∈ N := by
  rcases List.mem_or_eq_of_mem_set h with g | g
  · exact .inr g
  · exact .inl g
theorem Fine.set (f : Fine N next many blocks c) (hc : c < 1000) {i : Nat} {x x' : Nd} (hx : N[i]? = some x) (h1 : x'.ino = x.ino) (h2 : x'.kind = x.kind) (h3 : 0 ≤ x'.links ∧ x'.links ≤ 32 ∧ 0 ≤ x'.holds ∧ x'.holds ≤ c + 2 ∧ 1 ≤ x'.links + x'.holds) (h4 : x'.tgt = x.tgt)
    (h5 : x'.B.length ≤ 65536 ∧ x'.Has.length * 64 < x'.B.length + 64) (h6 : x'.kind ≠ 1 → x'.B = [] ∧ x'.Has = []) (h7 : (usedN (N.set i x') : Int) ≤ blocks) : Fine (N.set i x') next many blocks (c + 1) := by
  have hm := List.mem_of_getElem? hx
  have hi := lt_of_getW hx
  have key : ∀ (j : Nat) (y : Nd), (N.set i x')[j]? = some y → ∃ z, N[j]? = some z ∧ z.ino = y.ino := fun j y hj => by
    rw [List.getElem?_set] at hj
    split at hj
    · rename_i e
      subst e
      first | rw [if_pos hi] at hj | skip
      injection hj with hj
      subst hj
      exact ⟨x, hx, h1.symm⟩
    · exact ⟨y, hj, rfl⟩
  refine ⟨fun j k a b hjk ha hb => ?_, fun y hy => ?_, by have := f.nx; omega, fun y hy => ?_, fun y hy => ?_, fun y hy => ?_, fun y hy => ?_, fun y hy => ?_, by rw [List.length_set]; exact f.few, f.mb, f.bb, h7, by omega, fun y hy => ?_⟩
  · obtain ⟨a', ha', ea⟩ := key j a ha
    obtain ⟨b', hb', eb⟩ := key k b hb
    have := f.rise j k a' b' hjk ha' hb'
    omega
  all_goals rcases mem_setN hy with rfl | hy
  · have := f.bd x hm; omega
  · exact f.bd y hy
  · have := f.kd x hm; omega
  · exact f.kd y hy
  · omega
  · have := f.ln y hy; omega
  · rw [h4]; exact f.tg x hm
  · exact f.tg y hy
  · exact h5
  · exact f.by' y hy
  · exact h6
  · exact f.nf y hy
  · rw [h2, h4]; exact f.nt x hm
  · exact f.nt y hy
theorem Fine.erase (f : Fine N next many blocks c) (hc : c < 1000) {i : Nat} {x : Nd} (hx : N[i]? = some x) : Fine (N.eraseIdx i) next many blocks (c + 1) := by
  have hm : ∀ y ∈ N.eraseIdx i, y ∈ N := fun y hy => List.mem_of_mem_eraseIdx hy
  have hu := usedN_erase hx
  have hus := f.us
  refine ⟨fun j k a b hjk ha hb => ?_, fun y hy => f.bd y (hm y hy), by have := f.nx; omega, fun y hy => f.kd y (hm y hy), fun y hy => by have := f.ln y (hm y hy); omega, fun y hy => f.tg y (hm y hy), fun y hy => f.by' y (hm y hy), fun y hy => f.nf y (hm y hy), by have := f.few; rw [List.length_eraseIdx]; split <;> omega, f.mb, f.bb, by omega, by omega, fun y hy => f.nt y (hm y hy)⟩
  rw [List.getElem?_eraseIdx] at ha hb
  split at ha <;> split at hb
  · exact f.rise _ _ a b hjk ha hb
  · exact f.rise _ _ a b (by omega) ha hb
  · omega
  · exact f.rise _ _ a b (by omega) ha hb
theorem Fine.push (f : Fine N next many blocks c) (hc : c < 1000) {k : Int} {t : List UInt8} (hw : wrongE k t = 0) (hl : (N.length : Int) < many) : Fine (N ++ [newNd next k t]) (next + 1) many blocks (c + 1) := by
  obtain ⟨w1, w2, w3, w4⟩ := wrongE_kind hw
  have hnx := f.nx
  have key : ∀ y ∈ N ++ [newNd next k t], y ∈ N ∨ y = newNd next k t := fun y hy => by simpa using hy
  refine ⟨fun j q a b hjk ha hb => ?_, fun y hy => ?_, by omega, fun y hy => ?_, fun y hy => ?_, fun y hy => ?_, fun y hy => ?_, fun y hy => ?_, by simp; omega, f.mb, f.bb, ?_, by omega, fun y hy => ?_⟩
  · by_cases hq : q < N.length
    · rw [List.getElem?_append_left (by omega)] at ha hb
      exact f.rise j q a b hjk ha hb
    · rw [List.getElem?_append_right (by omega)] at hb
      have := lt_of_getW hb
      simp at this
      rw [show q - N.length = 0 by omega] at hb
      simp at hb
      subst hb
      rw [List.getElem?_append_left (by omega)] at ha
      exact (f.bd a (List.mem_of_getElem? ha)).2
  · rcases key y hy with hy | rfl
    · have := f.bd y hy; omega
    · simp only [newNd]; omega
  · rcases key y hy with hy | rfl
    · exact f.kd y hy
    · exact ⟨w1, w2⟩
  · rcases key y hy with hy | rfl
    · have := f.ln y hy; omega
    · simp only [newNd]; omega
  · rcases key y hy with hy | rfl
    · exact f.tg y hy
    · exact w3
  · rcases key y hy with hy | rfl
    · exact f.by' y hy
    · simp [newNd]
  · rcases key y hy with hy | rfl
    · exact f.nf y hy
    · exact fun _ => ⟨rfl, rfl⟩
  · have := f.us
    rw [usedN_app]
    simp [usedN, newNd] at this ⊢
    exact this
  · rcases key y hy with hy | rfl
    · exact f.nt y hy
    · exact w4
theorem Fine.onN (f : Fine N next many blocks c) (hc : c < 1000) {n : Int} {yes : Nat → Nd → List Nd} (h : ∀ (i : Nat) (x : Nd), N[i]? = some x → Fine (yes i x) next many blocks (c + 1)) : Fine (onN N n N yes) next many blocks (c + 1) := by
  cases hf : fnd N n with
  | none => rw [onN_no hf]; exact f.more hc
  | some i =>
    obtain ⟨x, hx, _⟩ := fnd_some hf
    rw [onN_yes hf hx]
    exact h i x hx
theorem Fine.link (f : Fine N next many blocks c) (hc : c < 1000) (n : Int) : Fine (linkN N n) next many blocks (c + 1) := f.onN hc fun i x hx => by
  have hm := List.mem_of_getElem? hx
  have hl := f.ln x hm
  have hu := usedN_set (x' := { x with links := x.links + 1 }) hx
  have hus := f.us
  simp only [] at hu
  split
  · exact f.more hc
  · exact f.set hc hx rfl rfl (by simp only []; omega) rfl (f.by' x hm) (f.nf x hm) (by omega)
theorem Fine.hold (f : Fine N next many blocks c) (hc : c < 1000) (n : Int) : Fine (holdN N n) next many blocks (c + 1) := f.onN hc fun i x hx => by
  have hm := List.mem_of_getElem? hx
  have hl := f.ln x hm
  have hu := usedN_set (x' := { x with holds := x.holds + 1 }) hx
  have hus := f.us
  simp only [] at hu
  exact f.set hc hx rfl rfl (by simp only []; omega) rfl (f.by' x hm) (f.nf x hm) (by omega)
theorem Fine.unlink (f : Fine N next many blocks c) (hc : c < 1000) (n : Int) : Fine (unlinkN N n) next many blocks (c + 1) := f.onN hc fun i x hx => by
  have hm := List.mem_of_getElem? hx
  have hl := f.ln x hm
  have hu := usedN_set (x' := { x with links := x.links - 1 }) hx
  have hus := f.us
  simp only [] at hu
  unfold lessN
  split
  · exact f.more hc
  · split
    · exact f.erase hc hx
    · rename_i h0 h1
      simp only [] at h1
      exact f.set hc hx rfl rfl (by simp only []; omega) rfl (f.by' x hm) (f.nf x hm) (by omega)
theorem Fine.release (f : Fine N next many blocks c) (hc : c < 1000) (n : Int) : Fine (releaseN N n) next many blocks (c + 1) := f.onN hc fun i x hx => by
  have hm := List.mem_of_getElem? hx
  have hl := f.ln x hm
  have hu := usedN_set (x' := { x with holds := x.holds - 1 }) hx
  have hus := f.us
  simp only [] at hu
  unfold lessN
  split
  · exact f.more hc
  · split
    · exact f.erase hc hx
    · rename_i h0 h1
      simp only [] at h1
      exact f.set hc hx rfl rfl (by simp only []; omega) rfl (f.by' x hm) (f.nf x hm) (by omega)
theorem Fine.trunc (f : Fine N next many blocks c) (hc : c < 1000) (n k : Int) : Fine (truncN N n k) next many blocks (c + 1) := f.onN hc fun i x hx => by
  have hm := List.mem_of_getElem? hx
  have hl := f.ln x hm
  have hb := f.by' x hm
  have hu := usedN_set (x' := { x with B := tB x.B k, Has := tH x.Has k }) hx
  have hus := f.us
  simp only [] at hu
  split
  · rename_i hk
    have h1 : (tH x.Has k).count true ≤ x.Has.count true := by
      unfold tH
      split
      · exact Nat.le_refl _
      · exact cutH_count _ _
    refine f.set hc hx rfl rfl (by simp only []; omega) rfl ?_ (fun h => absurd hk h) (by omega)
    simp only [tB, tH]
    split
    · exact hb
    · rw [cutB_len]
      simp only [cutH, List.length_take]
      omega
  · exact f.more hc
theorem Fine.write (f : Fine N next many blocks c) (hc : c < 1000) {n off : Int} {b : List UInt8} {N' : List Nd} (h : WriteN N blocks n off b N') (hu : (usedN N' : Int) ≤ blocks) : Fine N' next many blocks (c + 1) := by
  cases hf : fnd N n with
  | none =>
    simp only [WriteN, onN_no hf] at h
    subst h
    exact f.more hc
  | some i =>
    obtain ⟨x, hx, _⟩ := fnd_some hf
    have hm := List.mem_of_getElem? hx
    have hl := f.ln x hm
    have hb := f.by' x hm
    simp only [WriteN, onN_yes hf hx] at h
    split at h
    · rename_i hk
      obtain ⟨B', Has', hWR, rfl⟩ := h
      refine f.set hc hx rfl rfl (by simp only []; omega) rfl ?_ (fun h => absurd hk h) hu
      rcases hWR with ⟨_, rfl, rfl⟩ | ⟨hn, hW⟩
      · exact hb
      · refine ⟨?_, hW.hlen⟩
        have := hW.len
        simp only []
        omega
    · subst h
      exact f.more hc
theorem Fine.make (f : Fine N next many blocks c) (hc : c < 1000) (k : Int) (t : List UInt8) : Fine (makeN N next many k t) (makeX N next many k t) many blocks (c + 1) := by
  unfold makeN makeX
  split
  · rename_i h
    exact f.push hc h.1 h.2
  · exact f.more hc
end
end Go.Abs

/- Chapter 06: the law's own functions, walked. -/
namespace Go.Abs
open Go.Proofs
set_option maxRecDepth 100000
set_option linter.unusedVariables false
set_option linter.unusedSimpArgs false

structure ActS where
  k : Int
  ino : Int
  pos : Int
  t : List UInt8
def encS (a : ActS) : List AV := [.int .i64 a.k, .int .i64 a.ino, .int .i64 a.pos, .str a.t]
@[simp] theorem encS_len (a : ActS) : (encS a).length = 4 := rfl
def shortS (a : ActS) : ActS := ⟨a.k, a.ino, if 5000 < a.pos ∧ a.pos < 65000 then a.pos % 5000 else a.pos, a.t.take 300⟩
theorem kind30_ok (n : Int) (hn : i64 n) (H : Heap) : Cl Try.prog pr06 30 [.int .i64 n] H fun v H' => v = .int .i64 (n % 8) ∧ H' = H := by
  refine Cl.enter Try.func30 rfl rfl Try.ntmps30 (by simp) ?_
  by_cases h0 : 0 ≤ n
  · have h1 : ¬ n % 8 < 0 := by omega
    refine walk (both h0 h1) ?_
    exact ⟨rfl, rfl⟩
  · have ht : n.tmod 8 = if n % 8 = 0 then 0 else n % 8 - 8 := by
      rw [Int.tmod_eq_emod]
      by_cases hd : n % 8 = 0
      · rw [if_pos (.inr (Int.dvd_of_emod_eq_zero hd)), if_pos hd, hd]; rfl
      · rw [if_neg (fun hc => by rcases hc with g | g; exact h0 g; exact hd (Int.emod_eq_zero_of_dvd g)), if_neg hd]; rfl
    by_cases hd : n % 8 = 0
    · rw [if_pos hd] at ht
      refine walk ht ?_
      exact ⟨by rw [hd], rfl⟩
    · rw [if_neg hd] at ht
      have h1 : n % 8 - 8 < 0 := by omega
      refine walk (both ht h1) ?_
      exact ⟨by simp, rfl⟩
theorem short21_ok (a : ActS) (ha : a.t.length ≤ maxLen) (H : Heap) : Cl Try.prog pr06 21 [.agg (encS a)] H fun v H' => v = .agg (encS (shortS a)) ∧ Keep H H' := by
  obtain ⟨k, ino, pos, t⟩ := a
  unfold encS shortS
  simp only [] at ha ⊢
  unfold maxLen at ha
  by_cases h3 : 300 < t.length
  · have h3I : 300 < (t.length : Int) := by omega
    by_cases h5 : 5000 < pos
    · by_cases h6 : pos < 65000
      · rw [if_pos ⟨h5, h6⟩]
        refine Cl.enter Try.func21 rfl rfl Try.ntmps21 (by simp) ?_
        refine walk (both h3I (both h5 h6)) ?_
        refine ⟨rfl, ?_⟩
        repeat (first | exact Upd.rfl | refine Upd.push ?_ _ | refine Upd.set ?_ _ (by first | (simp; done) | (simp; omega)) (by omega))
      · rw [if_neg (fun h => h6 h.2)]
        refine Cl.enter Try.func21 rfl rfl Try.ntmps21 (by simp) ?_
        refine walk (both h3I (both h5 h6)) ?_
        refine ⟨rfl, ?_⟩
        repeat (first | exact Upd.rfl | refine Upd.push ?_ _ | refine Upd.set ?_ _ (by first | (simp; done) | (simp; omega)) (by omega))
    · rw [if_neg (fun h => h5 h.1)]
      refine Cl.enter Try.func21 rfl rfl Try.ntmps21 (by simp) ?_
      refine walk (both h3I h5) ?_
      refine ⟨rfl, ?_⟩
      repeat (first | exact Upd.rfl | refine Upd.push ?_ _ | refine Upd.set ?_ _ (by first | (simp; done) | (simp; omega)) (by omega))
  · have h3I : ¬ 300 < (t.length : Int) := by omega
    rw [List.take_of_length_le (by omega)]
    by_cases h5 : 5000 < pos
    · by_cases h6 : pos < 65000
      · rw [if_pos ⟨h5, h6⟩]
        refine Cl.enter Try.func21 rfl rfl Try.ntmps21 (by simp) ?_
        refine walk (both h3I (both h5 h6)) ?_
        refine ⟨rfl, ?_⟩
        repeat (first | exact Upd.rfl | refine Upd.push ?_ _ | refine Upd.set ?_ _ (by first | (simp; done) | (simp; omega)) (by omega))
      · rw [if_neg (fun h => h6 h.2)]
        refine Cl.enter Try.func21 rfl rfl Try.ntmps21 (by simp) ?_
        refine walk (both h3I (both h5 h6)) ?_
        refine ⟨rfl, ?_⟩
        repeat (first | exact Upd.rfl | refine Upd.push ?_ _ | refine Upd.set ?_ _ (by first | (simp; done) | (simp; omega)) (by omega))
    · rw [if_neg (fun h => h5 h.1)]
      refine Cl.enter Try.func21 rfl rfl Try.ntmps21 (by simp) ?_
      refine walk (both h3I h5) ?_
      refine ⟨rfl, ?_⟩
      repeat (first | exact Upd.rfl | refine Upd.push ?_ _ | refine Upd.set ?_ _ (by first | (simp; done) | (simp; omega)) (by omega))
/-! ## both sides, one behind the other -/
theorem duo {Ha Hb Hc Hd : Heap} {s r0 m : Nat} {slv : AV} {Q : List (Nd × Ph)} {W : List NW} {many blocks mn bk next next' nx : Int} {used : Int} {N' M' : List Nd} (hw : Wf Ha) (h : StoR Ha s r0 Q next many blocks used) (g : RefS Ha m slv W nx mn bk) (ap : ∀ z, footS s r0 Q z → ¬ footR m slv W z)
    {nx' : Int} (hR : ActR Ha Hb s r0 Q many blocks N' next') (k : Keep Hb Hc) (hW : ActW Hc Hd m slv W mn bk M' nx') :
    ∃ Q' slv' W', nds Q' = N' ∧ ndw W' = M' ∧ StoR Hd s r0 Q' next' many blocks (usedN (nds Q')) ∧ RefS Hd m slv' W' nx' mn bk ∧ (∀ z, footS s r0 Q' z → footS s r0 Q z ∨ Ha.next ≤ z) ∧ (∀ z, footR m slv' W' z → footR m slv W z ∨ Ha.next ≤ z) ∧ (∀ z, footS s r0 Q' z → ¬ footR m slv' W' z) ∧ Upd (fun z => footS s r0 Q z ∨ tabR m slv z) Ha Hd := by
  obtain ⟨Q', rfl, g1, g2, g3⟩ := hR
  obtain ⟨slv', W', rfl, g4, g5, g6⟩ := hW
  have hlS := h.lt hw
  have hlR := g.lt
  have hwb := g2.wf hw
  have hn := g2.next
  have hkn := k.next
  have ht : ∀ z, tabR m slv z → footR m slv W z := fun z hz => hz.elim .inl fun e => .inr (.inl e)
  have g7 : StoR Hd s r0 Q' next' many blocks (usedN (nds Q')) := ((g1.kept hwb k).upd (k.wf hwb) g5 fun z hz hc => by
    rcases g3 z hz with q | q
    · exact ap z q (ht z hc)
    · have := hlR z (ht z hc); omega)
  refine ⟨Q', slv', W', rfl, rfl, g7, g4, g3, fun z hz => ?_, fun z hz hc => ?_, ((g2.then k).mono fun z _ hz => .inl hz).trans g5 fun z _ hz => .inr hz⟩
  · rcases g6 z hz with q | q
    · exact .inl q
    · exact .inr (by omega)
  · have hb := g1.lt hwb z hz
    rcases g6 z hc with q | q
    · rcases g3 z hz with p | p
      · exact ap z p q
      · have := hlR z q; omega
    · omega
end Go.Abs

/- Chapter 06: an act done to both, walked. -/
namespace Go.Abs
open Go.Proofs
set_option maxRecDepth 100000
set_option linter.unusedVariables false
set_option linter.unusedSimpArgs false

section
variable {P : Program} {prims : Prims} {N n0 : Nat} {ops : Array Oper} {t : TypeId} {pos : String} {after : Array Edge} {g : Option (Nat × Bool)} {i m : Nat} {is : List (Nat × Nat)} {e : Nat → AV} {H H' : Heap} {snaps : List Heap} {v : AV} {K : (Nat → AV) → Heap → Prop}
/-- A text's bytes, wherever it stands. -/
theorem Dq.convS {d : Tmp} {s u : TypeId} {x : Operand} {z : List UInt8} (ho : ops[i]? = some ⟨some d, .convert s u x, t, pos, after, g⟩) (hh : isHeavy P (.convert s u x) = false) (hg : Met ops e N g) (hx : ev P (tab N e) x = some (.str z))
    (hr : opR P N e (.convert s u x) H = some (v, H'))
    (h : Dq P prims N ops n0 is (setE e d v) H' snaps K) : Dq P prims N ops n0 ((i, m) :: is) e H snaps K := by
  refine Dq.light ho hh (Met.w (o := ⟨some d, .convert s u x, t, pos, after, g⟩) hg) hr (.inr fun bs k hsem => ?_) h
  simp only [sem, hx, convSem] at hsem
  (repeat' split at hsem) <;> first | (cases hsem; done) | (simp at hsem; done) | skip
  all_goals (rename_i hbad; cases hbad)
end
theorem rwrote_ex (B : List UInt8) (Has : List Bool) (hH : Has.length * 64 < B.length + 64) (off : Int) (b : List UInt8) (ho : 0 ≤ off) (h0 : 0 < b.length) : ∃ B' Has', RWrote B Has off b B' Has' := by
  refine ⟨(List.range (max (B.length : Int) (off + b.length)).toNat).map fun (q : Nat) => if off ≤ (q : Int) ∧ (q : Int) < off + b.length then b.getD ((q : Int) - off).toNat 0 else B.getD q 0,
    (List.range ((max (B.length : Int) (off + b.length) + 63) / 64).toNat).map fun (k : Nat) => hasF Has k || (decide (off / 64 ≤ k) && decide (64 * (k : Int) < off + b.length)), ?_, ?_, ?_, ?_⟩
  · simp; omega
  · intro q
    by_cases hq : q < (max (B.length : Int) (off + b.length)).toNat
    · simp only [List.getD, List.getElem?_map, List.getElem?_range hq, Option.map_some, Option.getD_some]
    · have e1 : ¬ (off ≤ (q : Int) ∧ (q : Int) < off + b.length) := by omega
      rw [if_neg e1]
      simp [List.getD, List.getElem?_eq_none (by simp; omega : (List.range (max (B.length : Int) (off + b.length)).toNat).length ≤ q), List.getElem?_eq_none (by omega : B.length ≤ q)]
  · simp; omega
  · intro k
    by_cases hk : 0 ≤ k
    · obtain ⟨K, rfl⟩ := Int.eq_ofNat_of_zero_le hk
      by_cases hq : K < ((max (B.length : Int) (off + b.length) + 63) / 64).toNat
      · have e : hasF ((List.range ((max (B.length : Int) (off + b.length) + 63) / 64).toNat).map fun (k : Nat) => hasF Has k || (decide (off / 64 ≤ k) && decide (64 * (k : Int) < off + b.length))) (K : Int) = (hasF Has K || (decide (off / 64 ≤ (K : Int)) && decide (64 * (K : Int) < off + b.length))) := by
          conv => lhs; unfold hasF
          simp only [Int.toNat_natCast, List.getD, List.getElem?_map, List.getElem?_range hq, Option.map_some, Option.getD_some]
          simp only [hasF, List.getD, Int.toNat_natCast]
          simp
        rw [e]
      · have e1 : hasF Has (K : Int) = false := by
          cases hh : hasF Has (K : Int) with
          | false => rfl
          | true => have := hasF_lt hh; omega
        have e2 : decide (64 * (K : Int) < off + b.length) = false := by simp; omega
        rw [e1, e2]
        unfold hasF
        simp only [Int.toNat_natCast, List.getD]
        rw [List.getElem?_eq_none (by simp; omega)]
        simp
    · have e2 : decide (off / 64 ≤ k) = false := by simp; omega
      rw [e2]
      unfold hasF
      simp [hk]
theorem WR_ex {B : List UInt8} {Has : List Bool} (hH : Has.length * 64 < B.length + 64) (off : Int) (b : List UInt8) (room : Int) : ∃ B' Has', WR B Has off b room B' Has' := by
  by_cases hc : off < 0 ∨ off > 65536 ∨ (b.length : Int) > 65536 - off ∨ needN (hasF Has) off b.length > room ∨ b.length = 0
  · exact ⟨B, Has, .inl ⟨hc, rfl, rfl⟩⟩
  · obtain ⟨B', Has', hW⟩ := rwrote_ex B Has hH off b (by omega) (by omega)
    exact ⟨B', Has', .inr ⟨hc, hW⟩⟩
theorem WriteN_ex {N : List Nd} {next many blocks : Int} {c : Nat} (f : Fine N next many blocks c) (n off : Int) (b : List UInt8) : ∃ N', WriteN N blocks n off b N' := by
  unfold WriteN
  cases hf : fnd N n with
  | none => exact ⟨N, by rw [onN_no hf]⟩
  | some i =>
    obtain ⟨x, hx, _⟩ := fnd_some hf
    simp only [onN_yes hf hx]
    by_cases hk : x.kind = 1
    · simp only [if_pos hk]
      obtain ⟨B', Has', hWR⟩ := WR_ex (f.by' x (List.mem_of_getElem? hx)).2 off b (blocks - usedN N)
      exact ⟨_, B', Has', hWR, rfl⟩
    · simp only [if_neg hk]
      exact ⟨N, rfl⟩
def dirN (N : List Nd) (n : Int) : Bool := onN N n false fun _ x => decide (x.kind = 2)
theorem dirR {H : Heap} {s r0 : Nat} {Q : List (Nd × Ph)} {next many blocks used : Int} {c : Nat} (h : StoR H s r0 Q next many blocks used) (f : Fine (nds Q) next many blocks c) (n : Int) : Cl Try.prog pr06 29 [.ptr (some (s, 0)), .int .i64 n] H fun v H' => ∃ d, v = .ptr d ∧ d.isSome = dirN (nds Q) n ∧ H' = H := by
  cases hf : fnd (nds Q) n with
  | none =>
    simp only [dirN, onN_no hf]
    exact (Dir29_no h (fnd_none hf)).mono fun v H1 _ ⟨ea, eb⟩ => ⟨none, ea, rfl, eb⟩
  | some i =>
    obtain ⟨x, hx, rfl, _⟩ := fnd_some hf
    obtain ⟨p, hq⟩ := nds_inv hx
    simp only [dirN, onN_yes hf hx]
    refine (Dir29_yes h f hq).mono fun v H1 _ ⟨ea, eb⟩ => ⟨_, ea, ?_, eb⟩
    unfold dirP
    by_cases hk : x.kind = 2
    · rw [if_pos hk, decide_eq_true hk]; rfl
    · rw [if_neg hk, decide_eq_false hk]; rfl
/-- What an act done to both leaves. -/
def DoesP (H H' : Heap) (s r0 m : Nat) (slv : AV) (Q : List (Nd × Ph)) (W : List NW) (many blocks mn bk next nx : Int) (c : Nat) (v : AV) : Prop :=
  ∃ Q' slv' W' next' nx', StoR H' s r0 Q' next' many blocks (usedN (nds Q')) ∧ Fine (nds Q') next' many blocks (c + 1) ∧ RefS H' m slv' W' nx' mn bk ∧ (∀ z, footS s r0 Q' z → footS s r0 Q z ∨ H.next ≤ z) ∧ (∀ z, footR m slv' W' z → footR m slv W z ∨ H.next ≤ z) ∧
    (∀ z, footS s r0 Q' z → ¬ footR m slv' W' z) ∧ Upd (fun z => footS s r0 Q z ∨ tabR m slv z) H H' ∧ ∃ b : Bool, v = .bool b ∧ (nds Q = ndw W → next = nx → many = mn → blocks = bk → b = true ∧ nds Q' = ndw W' ∧ next' = nx')
section
variable {H H1 Hb Hc Hd H' : Heap} {s r0 m : Nat} {slv : AV} {Q : List (Nd × Ph)} {W : List NW} {many blocks mn bk next nx : Int} {c c' : Nat} {v : AV}
theorem DoesP.mk {N' M' : List Nd} {next' nx' : Int} (b : Bool) (k1 : Keep H H1) (hw : Wf H1) (h : StoR H1 s r0 Q next many blocks (usedN (nds Q))) (g : RefS H1 m slv W nx mn bk) (ap : ∀ z, footS s r0 Q z → ¬ footR m slv W z)
    (hR : ActR H1 Hb s r0 Q many blocks N' next') (k : Keep Hb Hc) (hW : ActW Hc Hd m slv W mn bk M' nx') (hF : Fine N' next' many blocks (c + 1)) (heq : nds Q = ndw W → next = nx → many = mn → blocks = bk → b = true ∧ N' = M' ∧ next' = nx') : DoesP H Hd s r0 m slv Q W many blocks mn bk next nx c (.bool b) := by
  obtain ⟨Q', slv', W', rfl, rfl, g1, g2, g3, g4, g5, g6⟩ := duo hw h g ap hR k hW
  have hk := k1.next
  exact ⟨Q', slv', W', next', nx', g1, hF, g2, fun z hz => (g3 z hz).imp_right (by omega), fun z hz => (g4 z hz).imp_right (by omega), g5, (Upd.of k1).trans g6 fun z _ hz => hz, b, rfl, heq⟩
theorem ActR.get {N' : List Nd} {next' : Int} (hR : ActR H1 Hb s r0 Q many blocks N' next') {A : Nat} (hA : A < H1.next) (hn : ¬ footS s r0 Q A) : Hb.get A = H1.get A := by
  obtain ⟨Q', _, _, u, _⟩ := hR
  exact u.keep A hA hn
theorem ActR.ref {N' : List Nd} {next' : Int} (hR : ActR H1 Hb s r0 Q many blocks N' next') (g : RefS H1 m slv W nx mn bk) (ap : ∀ z, footS s r0 Q z → ¬ footR m slv W z) : RefS Hb m slv W nx mn bk := by
  obtain ⟨Q', _, _, u, _⟩ := hR
  exact g.upd u fun z hz hc => ap z hc hz
set_option maxHeartbeats 2000000 in
theorem does10_ok (h : StoR H s r0 Q next many blocks (usedN (nds Q))) (f : Fine (nds Q) next many blocks c) (hc : c < 1000) (g : RefS H m slv W nx mn bk) (f' : Fine (ndw W) nx mn bk c') (ap : ∀ z, footS s r0 Q z → ¬ footR m slv W z) (a : ActS) (a1 : i64 a.k) (a2 : i64 a.ino) (a3 : i64 a.pos) (a4 : a.t.length ≤ maxLen) :
    Cl Try.prog pr06 10 [.ptr (some (s, 0)), .ptr (some (m, 0)), .agg (encS a)] H fun v H' => DoesP H H' s r0 m slv Q W many blocks mn bk next nx c v := by
  refine Cl.wf fun hw => ?_
  have hsh := fun H => short21_ok a a4 H
  have b3 : i64 (shortS a).pos := by
    unfold shortS i64 at *
    simp only []
    split <;> omega
  have b4 : (shortS a).t.length ≤ 300 := by simp [shortS]; omega
  have b2 : i64 (shortS a).ino := a2
  have b1 : i64 (shortS a).k := a1
  have hlS := h.lt hw
  generalize hb : shortS a = b at *
  obtain ⟨bk', bi, bp, bt⟩ := b
  simp only [] at b1 b2 b3 b4
  unfold encS at *
  simp only [] at hsh
  have hfoot : ∀ z, H.next ≤ z → ¬ footS s r0 Q z := fun z hz hc => by have := hlS z hc; omega
  refine Cl.enter Try.func10 rfl rfl Try.ntmps10 (by simp) ?_
  refine walk none0 ?_
  refine (hsh _).mono fun v H2 hw2 ⟨ea, kS⟩ => ?_
  subst ea
  have gS := (kS.get (show H.next < _ by simp)).trans (show (H.push (.cells [.int .i64 a.k, .int .i64 a.ino, .int .i64 a.pos, .str a.t] 37 true false)).get H.next = some (.cells [.int .i64 a.k, .int .i64 a.ino, .int .i64 a.pos, .str a.t] 37 true false) by simp)
  have kS1 : Keep H H2 := (Upd.rfl.push _).then kS
  have nS : H.next < H2.next := by have := kS.next; simp at this; omega
  refine walk gS ?_
  refine (kind30_ok bk' b1 _).mono fun v H3 _ ⟨ea, eb⟩ => ?_
  subst ea
  have k1 : Keep H H3 := by rw [eb]; exact kS1.set _ nS (by omega)
  have gA : H3.get H.next = some (.cells [.int .i64 bk', .int .i64 bi, .int .i64 bp, .str bt] 37 true false) := by rw [eb]; exact Heap.get_set_same _ _ _
  have nA : H.next < H3.next := by rw [eb]; simpa using nS
  clear eb
  have hw1 := k1.wf hw
  have hnA : ¬ footS s r0 Q H.next := hfoot _ (Nat.le_refl _)
  have h1 := h.kept hw k1
  have g1 := g.kept k1
  obtain ⟨q, hq⟩ : ∃ q, q = bk' % 8 := ⟨_, rfl⟩
  have q0 : 0 ≤ q ∧ q < 8 := by omega
  rw [← hq]
  by_cases e0 : q = 0
  · subst e0
    refine walk gA ?_
    refine (makeR h1 hw1 f bi bt (by omega)).mono fun v Hb hwb ⟨ea, hR⟩ => ?_
    subst ea
    have gb := hR.ref g1 ap
    have gAb := (hR.get nA hnA).trans gA
    refine walk gAb ?_
    refine (makeW gb f' bi bt (by omega)).mono fun v Hd hwd ⟨ea, hW⟩ => ?_
    subst ea
    by_cases en : (makeT (nds Q) next many bi bt).1 = (makeT (ndw W) nx mn bi bt).1
    · refine walk en ?_
      exact DoesP.mk _ k1 hw1 h1 g1 ap hR Upd.rfl hW (f.make hc bi bt) fun e1 e2 e3 e4 => ⟨by rw [e1, e2, e3]; simp, by rw [e1, e2, e3], by rw [e1, e2, e3]⟩
    · refine walk en ?_
      exact DoesP.mk _ k1 hw1 h1 g1 ap hR Upd.rfl hW (f.make hc bi bt) fun e1 e2 e3 e4 => absurd (by rw [e1, e2, e3]) en
  · by_cases e1 : q = 1
    · subst e1
      refine walk none0 ?_
      refine Wq.regionM [(0, 0), (1, 0), (2, 0), (3, 0), (4, 0), (5, 0), (6, 2), (7, 0), (8, 0), (9, 0)] (by kernel_rfl) ?_
      refine mwalk gA ?_
      refine (linkR h1 hw1 f bi).mono fun v Hb hwb ⟨ea, hR⟩ => ?_
      subst ea
      have gb := hR.ref g1 ap
      have gAb := (hR.get nA hnA).trans gA
      refine mwalk (both gA gAb) ?_
      refine (linkW gb f' bi).mono fun v Hd hwd ⟨ea, hW⟩ => ?_
      subst ea
      refine mwalk gA ?_
      refine walk none0 ?_
      exact DoesP.mk _ k1 hw1 h1 g1 ap hR Upd.rfl hW (f.link hc bi) fun e1 e2 e3 e4 => ⟨by rw [e1]; simp, by rw [e1], e2⟩
    · by_cases e2 : q = 2
      · subst e2
        refine walk none0 ?_
        refine Wq.regionM [(0, 0), (1, 0), (2, 0), (3, 0), (4, 0), (5, 0), (6, 2), (7, 0), (8, 0), (9, 0)] (by kernel_rfl) ?_
        refine mwalk gA ?_
        refine (unlinkR h1 hw1 f bi).mono fun v Hb hwb ⟨ea, hR⟩ => ?_
        subst ea
        have gb := hR.ref g1 ap
        have gAb := (hR.get nA hnA).trans gA
        refine mwalk (both gA gAb) ?_
        refine (unlinkW gb f' bi).mono fun v Hd hwd ⟨ea, hW⟩ => ?_
        subst ea
        refine mwalk gA ?_
        refine walk none0 ?_
        exact DoesP.mk _ k1 hw1 h1 g1 ap hR Upd.rfl hW (f.unlink hc bi) fun e1 e2 e3 e4 => ⟨by rw [e1]; simp, by rw [e1], e2⟩
      · by_cases e3 : q = 3
        · subst e3
          refine walk none0 ?_
          refine Wq.regionM [(0, 0), (1, 0), (2, 0), (3, 0), (4, 0), (5, 0), (6, 2), (7, 0), (8, 0), (9, 0)] (by kernel_rfl) ?_
          refine mwalk gA ?_
          refine (holdR h1 hw1 f bi).mono fun v Hb hwb ⟨ea, hR⟩ => ?_
          subst ea
          have gb := hR.ref g1 ap
          have gAb := (hR.get nA hnA).trans gA
          refine mwalk (both gA gAb) ?_
          refine (holdW gb f' bi).mono fun v Hd hwd ⟨ea, hW⟩ => ?_
          subst ea
          refine mwalk gA ?_
          refine walk none0 ?_
          exact DoesP.mk _ k1 hw1 h1 g1 ap hR Upd.rfl hW (f.hold hc bi) fun e1 e2 e3 e4 => ⟨by rw [e1]; simp, by rw [e1], e2⟩
        · by_cases e4 : q = 4
          · subst e4
            refine walk none0 ?_
            refine Wq.regionM [(0, 0), (1, 0), (2, 0), (3, 0), (4, 0), (5, 0), (6, 2), (7, 0), (8, 0), (9, 0)] (by kernel_rfl) ?_
            refine mwalk gA ?_
            refine (releaseR h1 hw1 f bi).mono fun v Hb hwb ⟨ea, hR⟩ => ?_
            subst ea
            have gb := hR.ref g1 ap
            have gAb := (hR.get nA hnA).trans gA
            refine mwalk (both gA gAb) ?_
            refine (releaseW gb f' bi).mono fun v Hd hwd ⟨ea, hW⟩ => ?_
            subst ea
            refine mwalk gA ?_
            refine walk none0 ?_
            exact DoesP.mk _ k1 hw1 h1 g1 ap hR Upd.rfl hW (f.release hc bi) fun e1 e2 e3 e4 => ⟨by rw [e1]; simp, by rw [e1], e2⟩
          · by_cases e5 : q = 5
            · subst e5
              refine walk none0 ?_
              refine Wq.regionM [(0, 0), (1, 0), (2, 0), (3, 0), (4, 0), (5, 0), (6, 0), (7, 0), (8, 0), (9, 0), (10, 0), (11, 2), (12, 0), (13, 2), (14, 0), (15, 2), (16, 2), (17, 0), (18, 0), (19, 0)] (by kernel_rfl) ?_
              refine mwalk gA ?_
              have hS4 : Sl (H3.push (.cells (cellsOfBytes bt) 5 true true)) 1 (.slice (some (H3.next, 0)) bt.length bt.length (some 1)) bt.length (cellsOfBytes bt) := by
                unfold Sl
                exact ⟨by rw [cellsOfBytes_len, Nat.mul_one], .inr ⟨H3.next, 0, _, _, rfl, Nat.le_refl _, .inr rfl, fun _ => ⟨by simp, _, _, _, _, by rw [Heap.get_push, if_pos rfl], by rw [cellsOfBytes_len]; omega, by rw [List.drop_zero, List.take_of_length_le (by rw [cellsOfBytes_len]; omega)]⟩⟩⟩
              have k4 : Keep H3 (H3.push (.cells (cellsOfBytes bt) 5 true true)) := Upd.rfl.push _
              have h4 := h1.kept hw1 k4
              have g4 := g1.kept k4
              have hw4 := k4.wf hw1
              have gA4 := (k4.get nA).trans gA
              have nA4 : H.next < (H3.push (.cells (cellsOfBytes bt) 5 true true)).next := by have := k4.next; omega
              have hl3 := h1.lt hw1
              have K4 := k1.then k4
              generalize H3.push (.cells (cellsOfBytes bt) 5 true true) = H4 at *
              refine (writeR h4 hw4 f bi bp b3 bt b4 _ hS4 fun z hz hc => ?_).mono fun v Hb hwb ⟨ea, ub, hR⟩ => ?_
              · simp [slBlock] at hz
                subst hz
                have := hl3 _ hc
                omega
              subst ea
              have gb : RefS Hb m slv W nx mn bk := g4.upd ub fun z hz hc => ap z hc hz
              have gAb := (ub.keep _ nA4 hnA).trans gA4
              have nAb : H.next < Hb.next := by omega
              refine mwalk (both gA gAb) ?_
              refine Dq.convS (z := bt) (v := .slice (some (Hb.next, 0)) bt.length bt.length (some 1)) (H' := Hb.push (.cells (cellsOfBytes bt) 5 true true)) rfl rfl met_none (by simp) (by simp (disch := omega); omega) ?_
              refine mwalk (both gA gAb) ?_
              have hS5 : Sl (Hb.push (.cells (cellsOfBytes bt) 5 true true)) 1 (.slice (some (Hb.next, 0)) bt.length bt.length (some 1)) bt.length (cellsOfBytes bt) := by
                unfold Sl
                exact ⟨by rw [cellsOfBytes_len, Nat.mul_one], .inr ⟨Hb.next, 0, _, _, rfl, Nat.le_refl _, .inr rfl, fun _ => ⟨by simp, _, _, _, _, by rw [Heap.get_push, if_pos rfl], by rw [cellsOfBytes_len]; omega, by rw [List.drop_zero, List.take_of_length_le (by rw [cellsOfBytes_len]; omega)]⟩⟩⟩
              have k5 : Keep Hb (Hb.push (.cells (cellsOfBytes bt) 5 true true)) := Upd.rfl.push _
              have g5 := gb.kept k5
              generalize Hb.push (.cells (cellsOfBytes bt) 5 true true) = Hc at *
              refine (writeW g5 f' bi bp b3 bt b4 _ hS5).mono fun v Hd hwd ⟨ea, M', hM, hW⟩ => ?_
              subst ea
              refine mwalk gA ?_
              refine walk none0 ?_
              by_cases hall : nds Q = ndw W ∧ blocks = bk
              · obtain ⟨l1, l2⟩ := hall
                rw [← l1, ← l2] at hM
                obtain ⟨hR1, hu⟩ := hR M' hM
                exact DoesP.mk _ K4 hw4 h4 g4 ap hR1 k5 hW (f.write hc hM hu) fun e1 e2 e3 e4 => ⟨by rw [e1, e4]; simp, rfl, e2⟩
              · obtain ⟨N', hN⟩ := WriteN_ex f bi bp bt
                obtain ⟨hR1, hu⟩ := hR N' hN
                exact DoesP.mk _ K4 hw4 h4 g4 ap hR1 k5 hW (f.write hc hN hu) fun e1 e2 e3 e4 => absurd ⟨e1, e4⟩ hall
            · by_cases e6 : q = 6
              · subst e6
                refine walk none0 ?_
                refine Wq.regionM [(0, 0), (1, 0), (2, 0), (3, 0), (4, 0), (5, 0), (6, 0), (7, 0), (8, 2), (9, 0), (10, 2), (11, 0), (12, 0), (13, 0)] (by kernel_rfl) ?_
                refine mwalk gA ?_
                refine (truncR h1 hw1 f bi bp b3).mono fun v Hb hwb ⟨ea, hR⟩ => ?_
                subst ea
                have gb := hR.ref g1 ap
                have gAb := (hR.get nA hnA).trans gA
                refine mwalk (both gA gAb) ?_
                refine (truncW gb f' bi bp b3).mono fun v Hd hwd ⟨ea, hW⟩ => ?_
                subst ea
                refine mwalk gA ?_
                refine walk none0 ?_
                exact DoesP.mk _ k1 hw1 h1 g1 ap hR Upd.rfl hW (f.trunc hc bi bp) fun e1 e2 e3 e4 => ⟨by rw [e1]; simp, by rw [e1], e2⟩
              · refine walk (both e0 (both e1 (both e2 (both e3 (both e4 (both e5 e6)))))) ?_
                refine Wq.regionM [(0, 0), (1, 0), (2, 0), (3, 0), (4, 0), (5, 0), (6, 2), (7, 0), (8, 0), (9, 0)] (by kernel_rfl) ?_
                refine mwalk gA ?_
                refine (dirR h1 f bi).mono fun v Hb _ ⟨d, ea, ed, eb⟩ => ?_
                subst ea; subst eb
                refine mwalk gA ?_
                refine (At18_ok g1.tab f'.lenW bi).mono fun v Hd _ ⟨ea, eb⟩ => ?_
                subst ea; subst eb
                refine mwalk gA ?_
                have fin : ∀ b : Bool, (nds Q = ndw W → b = true) → DoesP H Hd s r0 m slv Q W many blocks mn bk next nx c (.bool b) := fun b hb => DoesP.mk b k1 hw1 h1 g1 ap (ActR.same h1) Upd.rfl (ActW.same g1) (f.more hc) fun e1 e2 e3 e4 => ⟨hb e1, e1, e2⟩
                cases hf : fnd (ndw W) bi with
                | none =>
                  have ha : atI (ndw W) bi = -1 := by simp [atI, hf]
                  have hd : dirN (ndw W) bi = false := by simp only [dirN, onN_no hf]
                  rw [ha]
                  cases d with
                  | none =>
                    refine walk none0 ?_
                    exact fin _ fun _ => by simp
                  | some d =>
                    refine walk none0 ?_
                    exact fin _ fun e => by rw [e, hd] at ed; cases ed
                | some i =>
                  obtain ⟨x, hx, rfl, _⟩ := fnd_some hf
                  obtain ⟨s1, s2, hw'⟩ := ndw_inv hx
                  have ha : atI (ndw W) x.ino = i := atI_yes f' hx
                  have hd : dirN (ndw W) x.ino = decide (x.kind = 2) := by simp only [dirN, onN_yes hf hx]
                  have hgm := g1.tab.g
                  obtain ⟨b, o, cap, ex, cc, rfl, _, _, _, p2, _, p4, _, p6⟩ := g1.tab.node hw'
                  have p7 : cc[o + i * 9 + 1]? = some (.int .i64 x.kind) := p6 1 (by decide)
                  have p9 : o + i * 9 + 1 < cc.length := by omega
                  have hiW := lt_of_getW hw'
                  have hiI : (i : Int) < W.length := by omega
                  rw [ha]
                  by_cases hk : x.kind = 2
                  · rw [decide_eq_true hk] at hd
                    cases d with
                    | none =>
                      refine walk (both hgm (both p2 (both p7 (both p9 (both hiW (both hiI hk)))))) ?_
                      exact fin _ fun e => by rw [e, hd] at ed; cases ed
                    | some d =>
                      refine walk (both hgm (both p2 (both p7 (both p9 (both hiW (both hiI hk)))))) ?_
                      exact fin _ fun _ => by simp
                  · rw [decide_eq_false hk] at hd
                    cases d with
                    | none =>
                      refine walk (both hgm (both p2 (both p7 (both p9 (both hiW (both hiI hk)))))) ?_
                      exact fin _ fun _ => by simp
                    | some d =>
                      refine walk (both hgm (both p2 (both p7 (both p9 (both hiW (both hiI hk)))))) ?_
                      exact fin _ fun e => by rw [e, hd] at ed; cases ed
end
end Go.Abs

/- Chapter 06: whether both are alike, walked. -/
namespace Go.Abs
open Go.Proofs
set_option maxRecDepth 100000
set_option linter.unusedVariables false
set_option linter.unusedSimpArgs false

def eqI : List (Int × Int) → Option Bool
  | [] => some true
  | (a, b) :: r => match some (a == b) with
    | some true => eqI r
    | some false => some false
    | none => none
theorem eqI_all : ∀ l : List (Int × Int), eqI l = some (l.all fun p => p.1 == p.2)
  | [] => rfl
  | (a, b) :: r => by
    have h : eqI ((a, b) :: r) = if a = b then eqI r else some false := by
      by_cases h : a = b
      · subst h; simp [eqI]
      · have : (a == b) = false := by simpa using h
        simp only [eqI, this, if_neg h]
    rw [h, eqI_all r]
    by_cases h : a = b <;> simp [h]
def eqSemF (P : Program) (t : TypeId) (xs ys : List AV) : Option Bool :=
  match P.underlying t with
  | some (.struct _) => if P.eqGuardType P.depth t then none else eqA P 8 t (.agg xs) (.agg ys)
  | _ => none
theorem eqSemF_eq {P : Program} {t : TypeId} {xs ys : List AV} {neg r : Bool} (h : eqSemF P t xs ys = some r) : eqSem P t (.agg xs) (.agg ys) neg = some (.pure (.bool (r != neg))) := by
  unfold eqSemF at h
  unfold eqSem
  split at h
  · rename_i hu
    rw [hu]
    split at h
    · cases h
    · rename_i hg
      simp only [hg, h, Bool.false_eq_true, if_false]
  · cases h
theorem eqT_chain (a b c d e a' b' c' d' e' : Int) : eqSemF Try.prog 41 [.int .i64 a, .int .i64 b, .int .i64 c, .int .i64 d, .int .i64 e] [.int .i64 a', .int .i64 b', .int .i64 c', .int .i64 d', .int .i64 e'] = eqI [(a, a'), (b, b'), (c, c'), (d, d'), (e, e')] := by kernel_rfl
theorem eqT_ne (a b c d e : Int) (H : Heap) : binR Try.prog .neq 41 (some (.agg [.int .i64 a, .int .i64 b, .int .i64 c, .int .i64 d, .int .i64 e])) (some (.agg [.int .i64 a, .int .i64 b, .int .i64 c, .int .i64 d, .int .i64 e])) H = some (.bool false, H) := by
  have h := eqT_chain a b c d e a b c d e
  rw [eqI_all] at h
  rw [binR_aggn, eqSemF_eq h]
  simp [Sm.run]
section
variable {H : Heap} {s r0 m : Nat} {slv : AV} {Q : List (Nd × Ph)} {W : List NW} {many blocks next : Int} {c : Nat}
def inos (N : List Nd) : List Int := N.map (·.ino)
theorem inos_take {N : List Nd} {i : Nat} {x : Nd} (h : N[i]? = some x) : inos (N.take (i + 1)) = inos (N.take i) ++ [x.ino] := by
  rw [List.take_add_one, h]
  simp [inos]
set_option maxHeartbeats 2000000 in
theorem alike14_ok (h : StoR H s r0 Q next many blocks (usedN (nds Q))) (f : Fine (nds Q) next many blocks c) (g : RefS H m slv W next many blocks) (hN : nds Q = ndw W) :
    Cl Try.prog pr06 14 [.ptr (some (s, 0)), .ptr (some (m, 0))] H fun v H' => v = .bool true ∧ Keep H H' := by
  refine Cl.wf fun hw => ?_
  have f' : Fine (ndw W) next many blocks c := hN ▸ f
  have hgm := g.tab.g
  have hlt := g.tab.lt
  have hfew := f'.few
  have hmb := f.mb
  have hbb := f.bb
  rw [ndw_len] at hfew
  obtain ⟨va, cap, ex, hsl, hcc, hex⟩ := g.tab.own.form
  obtain ⟨L, hL⟩ : ∃ L, L = W.length := ⟨_, rfl⟩
  rw [hsl, ← hL] at hgm
  refine Cl.enter Try.func14 rfl rfl Try.ntmps14 (by simp) ?_
  refine walk none0 ?_
  refine Wq.loop (fun k e H' => ∃ (i : Nat) (w : AV), i ≤ L ∧ k = L - i ∧ e 0 = .ptr (some (s, 0)) ∧ e 1 = .ptr (some (m, 0)) ∧ e 5 = w ∧ e 6 = .int .i64 i ∧ FreshG H H' 3 1 w i (ints (inos ((ndw W).take i))) ∧ ∀ z, slBlock w = some z → z < H'.next) L ?_ ?_
  · refine ⟨0, .slice (some (H.next, 0)) 0 0 none, by omega, by omega, by simp, by simp, by simp, by simp, ?_, by simp [slBlock]⟩
    simpa [ints, inos] using FreshG.made (H0 := H) (cs := []) (n := 0) (elem := 3) (s := 1) (Upd.rfl.push (.cells [] 3 true false)) (by simp) (b := H.next) (by omega) (by simp) (by simp)
  · rintro k e H' ⟨i, w, hi, rfl, q0, q1, q5, q6, hF, hwl⟩
    have hK := hF.keep
    have hgm' := (hK.get hlt).trans hgm
    by_cases hlt2 : i < L
    · have hltI : (i : Int) < L := by omega
      obtain ⟨nw, hnw⟩ : ∃ nw, W[i]? = some nw := ⟨W[i], by simp [show i < W.length by omega]⟩
      obtain ⟨x, s1, s2⟩ := nw
      have hx := ndw_get hnw
      have hx' : (nds Q)[i]? = some x := by rw [hN]; exact hx
      obtain ⟨p, hq⟩ := nds_inv hx'
      have g1 := g.kept hK
      obtain ⟨b, o, cap', ex', cc, e1, _, _, hbn, p2, _, p4, _, p6⟩ := g1.tab.node hnw
      rw [hsl] at e1
      injection e1 with e1 _ e2 e3
      subst e1; subst e2; subst e3
      have p11 := nine_of p4 p6
      have p9 : o + i * 9 < cc.length := by omega
      have p12 : o + i * 9 + 9 ≤ cc.length := p4
      obtain ⟨a, c1, x1, a', c', x', ee, _⟩ := id (g1.rf i _ hnw)
      simp only [AV.agg.injEq, List.cons.injEq, and_true] at ee
      obtain ⟨rfl, rfl⟩ := ee
      simp only [encW] at p11
      refine walk (both q0 (both q1 (both q5 (both q6 (both hgm' (both hlt2 (both hltI (both p2 (both p9 (both p11 p12)))))))))) ?_
      obtain ⟨HX, eX⟩ : ∃ HX, HX = ((H'.push (.cells [.int .i64 0, .int .i64 0, .int .i64 0, .int .i64 0, .int .i64 0, .slice none 0 0 none, .slice none 0 0 none, .str [], .slice none 0 0 none] 59 true false)).set H'.next (.cells [.int .i64 x.ino, .int .i64 x.kind, .int .i64 x.links, .int .i64 x.holds, .int .i64 0, .slice a x.B.length c1 x1, .slice a' x.Has.length c' x', .str x.tgt, .slice none 0 0 none] 59 true false)).push (.cells [.int .i64 x.ino] 3 true false) := ⟨_, rfl⟩
      have kX : Keep H' HX := by rw [eX]; exact ((Upd.rfl.push _).set _ (by simp) (by omega)).push _
      have gX : HX.get H'.next = some (.cells [.int .i64 x.ino, .int .i64 x.kind, .int .i64 x.links, .int .i64 x.holds, .int .i64 0, .slice a x.B.length c1 x1, .slice a' x.Has.length c' x', .str x.tgt, .slice none 0 0 none] 59 true false) := by rw [eX, Heap.get_push, if_neg (by simp)]; exact Heap.get_set_same _ _ _
      have gE : HX.get (H'.next + 1) = some (.cells [.int .i64 x.ino] 3 true false) := by rw [eX, Heap.get_push, if_pos (by simp)]
      have nX : HX.next = H'.next + 2 := by rw [eX]; simp
      rw [← eX]
      clear eX
      refine Oq.appendL (own := (hF.own.kept kX)) (new := [.int .i64 x.ino]) (m := 1) (by simp (disch := omega) [q5, gE, -getElem?_pos, wrapI64, tdivN, tmodN, ipos, ineg, dpos, dneg, slc_l, slc_h, slc_lh, slc_hm, slc_lhm, slc_0, slcR_some, slcR_none, cutS_ok, cutA_ok, byteAt_ok]; first | done | (repeat' (first | rfl | apply And.intro))) ⟨_, rfl, by simp; first | done | (repeat' (first | rfl | apply And.intro))⟩ rfl (by kernel_rfl) (by kernel_rfl) (by refine ⟨by simp, ?_⟩; simp (disch := omega) [srcCells, cellsAt, q5, gE, -getElem?_pos, wrapI64, tdivN, tmodN, ipos, ineg, dpos, dneg, slc_l, slc_h, slc_lh, slc_hm, slc_lhm, slc_0, slcR_some, slcR_none, cutS_ok, cutA_ok, byteAt_ok]; first | done | rfl) (by simp [q5, gE]) (by simp [q5, gE]) (by omega) (by omega) fun w1 H2 o1 b1 s1 l1 => ?_
      have f2 := (hF.then kX).app o1 b1 s1
      have gX2 : H2.get H'.next = some (.cells [.int .i64 x.ino, .int .i64 x.kind, .int .i64 x.links, .int .i64 x.holds, .int .i64 0, .slice a x.B.length c1 x1, .slice a' x.Has.length c' x', .str x.tgt, .slice none 0 0 none] 59 true false) := by
        rw [b1.2.2 _ (by omega) (fun e => by have := hwl _ e.symm; omega)]
        exact gX
      have nX2 : H'.next < H2.next := by have := b1.1; omega
      have k2 := f2.keep
      refine walk (both q0 (both q1 gX2)) ?_
      refine (Stat12_yes (h.kept hw k2) (k2.wf hw) f hq).mono fun v H3 _ ⟨ea, k3⟩ => ?_
      simp only [statT] at ea
      subst ea
      have gX3 := (k3.get nX2).trans gX2
      refine walk (both q0 (both q1 gX3)) ?_
      have k4 : Keep H3 ((H3.push (.cells [.int .i64 0, .int .i64 0, .int .i64 0, .int .i64 0, .int .i64 0] 41 true false)).set H3.next (.cells [.int .i64 x.kind, .int .i64 (x.B.length + x.tgt.length), .int .i64 x.links, .int .i64 x.holds, .int .i64 (x.Has.count true)] 41 true false)) := (Upd.rfl.push _).set _ (by simp) (by omega)
      have gA : ((H3.push (.cells [.int .i64 0, .int .i64 0, .int .i64 0, .int .i64 0, .int .i64 0] 41 true false)).set H3.next (.cells [.int .i64 x.kind, .int .i64 (x.B.length + x.tgt.length), .int .i64 x.links, .int .i64 x.holds, .int .i64 (x.Has.count true)] 41 true false)).get H3.next = some (.cells [.int .i64 x.kind, .int .i64 (x.B.length + x.tgt.length), .int .i64 x.links, .int .i64 x.holds, .int .i64 (x.Has.count true)] 41 true false) := Heap.get_set_same _ _ _
      have nA : H3.next < ((H3.push (.cells [.int .i64 0, .int .i64 0, .int .i64 0, .int .i64 0, .int .i64 0] 41 true false)).set H3.next (.cells [.int .i64 x.kind, .int .i64 (x.B.length + x.tgt.length), .int .i64 x.links, .int .i64 x.holds, .int .i64 (x.Has.count true)] 41 true false)).next := by simp
      generalize ((H3.push (.cells [.int .i64 0, .int .i64 0, .int .i64 0, .int .i64 0, .int .i64 0] 41 true false)).set H3.next (.cells [.int .i64 x.kind, .int .i64 (x.B.length + x.tgt.length), .int .i64 x.links, .int .i64 x.holds, .int .i64 (x.Has.count true)] 41 true false)) = H4 at *
      have gX4 := (k4.get (by have := k3.next; omega)).trans gX3
      have K4 := (k2.then k3).then k4
      refine (Stat41_yes (g.kept K4) f' hnw).mono fun v H5 _ ⟨ea, k5⟩ => ?_
      simp only [statT] at ea
      subst ea
      have gX5 := (k5.get (by have := k3.next; have := k4.next; omega)).trans gX4
      have gA5 := (k5.get nA).trans gA
      refine walk (both q0 (both q1 gX5)) ?_
      have k6 : Keep H5 ((H5.push (.cells [.int .i64 0, .int .i64 0, .int .i64 0, .int .i64 0, .int .i64 0] 41 true false)).set H5.next (.cells [.int .i64 x.kind, .int .i64 (x.B.length + x.tgt.length), .int .i64 x.links, .int .i64 x.holds, .int .i64 (x.Has.count true)] 41 true false)) := (Upd.rfl.push _).set _ (by simp) (by omega)
      have gB : ((H5.push (.cells [.int .i64 0, .int .i64 0, .int .i64 0, .int .i64 0, .int .i64 0] 41 true false)).set H5.next (.cells [.int .i64 x.kind, .int .i64 (x.B.length + x.tgt.length), .int .i64 x.links, .int .i64 x.holds, .int .i64 (x.Has.count true)] 41 true false)).get H5.next = some (.cells [.int .i64 x.kind, .int .i64 (x.B.length + x.tgt.length), .int .i64 x.links, .int .i64 x.holds, .int .i64 (x.Has.count true)] 41 true false) := Heap.get_set_same _ _ _
      generalize ((H5.push (.cells [.int .i64 0, .int .i64 0, .int .i64 0, .int .i64 0, .int .i64 0] 41 true false)).set H5.next (.cells [.int .i64 x.kind, .int .i64 (x.B.length + x.tgt.length), .int .i64 x.links, .int .i64 x.holds, .int .i64 (x.Has.count true)] 41 true false)) = H6 at *
      have gX6 := (k6.get (by have := k3.next; have := k4.next; have := k5.next; omega)).trans gX5
      have gA6 := (k6.get (by have := k5.next; omega)).trans gA5
      have K6 := (K4.then k5).then k6
      refine walk (both q0 (both q1 gX6)) ?_
      refine (Target42_yes (h.kept hw K6) f hq).mono fun v H7 _ ⟨ea, eb⟩ => ?_
      subst ea; subst eb
      have hfin : FreshG H H7 3 1 w1 (i + 1) (ints (inos ((ndw W).take (i + 1)))) ∧ ∀ z, slBlock w1 = some z → z < H7.next := by
        refine ⟨?_, fun z hz => ?_⟩
        · rw [inos_take hx]
          have := ((f2.then k3).then k4).then k5 |>.then k6
          simpa [ints] using this
        · have := k3.next
          have := k4.next
          have := k5.next
          have := k6.next
          rcases l1 z hz with e | e
          · have := hwl z e; omega
          · omega
      have heq := fun k z H => eqT_ne k z x.links x.holds (x.Has.count true) H
      by_cases hk : x.kind = 3
      · simp only [if_pos hk, decide_eq_true hk]
        refine walk (both q0 (both q1 (both q6 (both gX6 (both gA6 (both gB (both hk heq))))))) ?_
        exact Roundq.normal (L - (i + 1)) (by omega) ⟨i + 1, w1, by omega, rfl, by simp [q0], by simp [q1], by simp, by simp [q6], hfin⟩
      · have hnt := f.nt x (List.mem_of_getElem? hx') hk
        simp only [if_neg hk, decide_eq_false hk]
        refine walk (both q0 (both q1 (both q6 (both gX6 (both gA6 (both gB (both hk (both hnt heq)))))))) ?_
        exact Roundq.normal (L - (i + 1)) (by omega) ⟨i + 1, w1, by omega, rfl, by simp [q0], by simp [q1], by simp, by simp [q6], hfin⟩
    · obtain rfl : i = L := by omega
      have hltI : ¬ (i : Int) < i := by omega
      have htk : (ndw W).take i = ndw W := List.take_of_length_le (by rw [ndw_len]; omega)
      rw [htk] at hF
      have hQl : Q.length = W.length := by rw [← nds_len, hN, ndw_len]
      refine walk (both q0 (both q1 (both q5 (both q6 hgm')))) ?_
      refine (Room8_ok (h.kept hw hK) (by omega) (by omega) hbb f.used).mono fun v H2 _ ⟨ea, eb⟩ => ?_
      subst ea; subst eb
      refine walk (both q0 q1) ?_
      refine (Room43_ok (g.kept hK) f').mono fun v H3 _ ⟨ea, k3⟩ => ?_
      rw [← hN, ← hQl] at ea
      subst ea
      have hF3 := hF.then k3
      have hK3 := hF3.keep
      have hgm3 := (hK3.get hlt).trans hgm
      have h3 := h.kept hw hK3
      obtain ⟨wa, wc, wx, rfl, _⟩ := hF3.own.form
      refine walk (both q0 q1) ?_
      refine Wq.regionM [(0, 0), (1, 0), (2, 0), (3, 0), (4, 0), (5, 0), (6, 0), (7, 0), (8, 0), (9, 0), (10, 0), (11, 0), (12, 0), (13, 0), (14, 0), (15, 0), (16, 0), (17, 0), (18, 0), (19, 0), (20, 2), (21, 0), (22, 0), (23, 0)] (by kernel_rfl) ?_
      refine mwalk (both q0 (both q1 q5)) ?_
      refine (All11_ok h3 f).mono fun v H4 _ ⟨k4, hI⟩ => ?_
      refine mwalk (both q0 (both q1 q5)) ?_
      have hl : i = (inos (ndw W)).length := by simp [inos, ndw_len]; omega
      have hI2 : Is H4 (.slice wa i wc wx) (inos (ndw W)) := by
        have := (hF3.then k4).own.sl
        unfold Is
        rw [← hl]
        exact this
      refine (nums32_ok hI hI2 (by simp [inos]; rw [nds_len]; omega)).mono fun v H5 _ ⟨ea, eb⟩ => ?_
      rw [show ((nds Q).map fun x => x.ino) = inos (ndw W) by rw [hN]; rfl] at ea
      rw [decide_eq_true rfl] at ea
      subst ea; subst eb
      have hgm5 := (k4.get (by have := hK3.next; omega)).trans hgm3
      refine mwalk (both q0 (both q1 (both q5 hgm5))) ?_
      refine (Next20_ok (h3.kept (hK3.wf hw) k4)).mono fun v H6 _ ⟨ea, eb⟩ => ?_
      subst ea; subst eb
      refine mwalk (both q0 (both q1 (both q5 hgm5))) ?_
      refine walk none0 ?_
      exact ⟨by simp, hK3.then k4⟩
end
end Go.Abs
