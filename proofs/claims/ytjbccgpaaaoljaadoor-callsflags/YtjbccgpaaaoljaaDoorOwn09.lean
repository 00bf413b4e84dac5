/- Texts on this program, joined. -/
import Derived.Test.YtjbccgpaaaoljaaDoorOwn07
import Derived.Test.YtjbccgpaaaoljaaDoorKit08

/- Chapter 15: strings.SplitSeq's rounds: which texts come. -/
namespace Go.Abs
open Go.Proofs
set_option maxRecDepth 100000
set_option linter.unusedVariables false
set_option linter.unusedSimpArgs false

theorem pb15_ok : True := trivial
section
variable {ρ : Map} {n1 b1 b2 b3 : Nat} {c : UInt8} {t1 t2 t3 : TypeId} {m1 m2 m3 : Bool}
abbrev KS (nx b1 b2 b3 : Nat) (c : UInt8) (t1 t2 t3 : TypeId) (m1 m2 m3 : Bool) (cur : List UInt8) : Heap := K3 nx b1 b2 b3 (.cells [.str [c]] t1 true m1) (.cells [.str cur] t2 true m2) (.cells [.int .i64 0] t3 true m3)
/-- The three blocks' places. -/
def Three (ρ : Map) (b1 b2 b3 : Nat) (B : Nat) : Prop := ∃ b p, (b = b1 ∨ b = b2 ∨ b = b3) ∧ ρ b = some p ∧ p.blk = B
theorem KS.at {nx : Nat} {o1 o2 o3 o : AObj} {b : Nat} (h12 : b1 ≠ b2) (h13 : b1 ≠ b3) (h23 : b2 ≠ b3) (hb : (K3 nx b1 b2 b3 o1 o2 o3).get b = some o) : b = b1 ∨ b = b2 ∨ b = b3 := by
  rw [K3.get h12 h13 h23] at hb
  split at hb
  · rename_i e; exact .inl e
  · split at hb
    · rename_i e; exact .inr (.inl e)
    · split at hb
      · rename_i e; exact .inr (.inr e)
      · cases hb
theorem KS.still {G nx : Nat} {cur : List UInt8} {W W' : World} (h12 : b1 ≠ b2) (h13 : b1 ≠ b3) (h23 : b2 ≠ b3) (h : Sim G ρ (KS nx b1 b2 b3 c t1 t2 t3 m1 m2 m3 cur) W) (hk : ∀ B o, Three ρ b1 b2 b3 B → W.heap[B]? = some o → W'.heap[B]? = some o) : Sim G ρ (KS nx b1 b2 b3 c t1 t2 t3 m1 m2 m3 cur) W' where
  obj := fun b o hb => (h.obj b o hb).one fun p O hl hp hO => hk p.blk O ⟨b, p, KS.at h12 h13 h23 hb, hp, rfl⟩ hO
  apart := h.apart
  glob := h.glob
theorem KS.quiet {G nx : Nat} {cur : List UInt8} {W W' : World} {ρ' : Map} {H' : Heap} (h12 : b1 ≠ b2) (h13 : b1 ≠ b3) (h23 : b2 ≠ b3) (hg : Good G ρ (KS nx b1 b2 b3 c t1 t2 t3 m1 m2 m3 cur) W ρ' H' W') : Quiet (Three ρ b1 b2 b3) W W' where
  size := hg.keeps.size
  kept := fun B o hB hn => hg.keeps.kept B o hB fun ⟨b, o', p, hb, ho, hp, e⟩ => hn ⟨b, p, KS.at h12 h13 h23 hb, hp, e⟩
  tape := hg.keeps.tape
  os := hg.keeps.os
  output := hg.keeps.output
theorem KS.same {G : Nat} {H H' : Heap} {W W' : World} {ρ' : Map} (hg : Good G ρ H W ρ' H' W') (hn : H'.next = H.next) : ρ' = ρ := by
  funext b
  exact hg.out b (by omega)
theorem KS.set {G nx : Nat} {cur cur' : List UInt8} {W : World} (h12 : b1 ≠ b2) (h13 : b1 ≠ b3) (h23 : b2 ≠ b3) (h : Sim G ρ ((KS nx b1 b2 b3 c t1 t2 t3 m1 m2 m3 cur).set b2 (.cells [.str cur'] t2 true m2)) W) : Sim G ρ (KS nx b1 b2 b3 c t1 t2 t3 m1 m2 m3 cur') W := by
  refine h.congr (fun b => ?_) rfl
  rw [Heap.get_set, K3.get h12 h13 h23, K3.get h12 h13 h23]
  by_cases e2 : b = b2
  · subst e2; simp [Ne.symm h12]
  · simp [e2]
def Env4 (e : Nat → AV) (l b1 b2 b3 : Nat) : Prop := e 0 = .func (.yield l) [] [] ∧ e 1 = .ptr (some (b1, 0)) ∧ e 2 = .ptr (some (b2, 0)) ∧ e 3 = .ptr (some (b3, 0))
theorem frel_yield {P : Program} {N i l : Nat} {e : Nat → AV} {a : Act} (hf : Frel ρ (tab N e) a) (hi : i < N) (h : e i = .func (.yield l) [] []) : a.eval (.tmp i) = .func (.yield l) #[] #[] := by
  obtain ⟨u, hu, hr⟩ := VRels.get i (e i) hf (tab_at e hi)
  rw [h] at hr
  obtain ⟨us, vs, rfl, h1, h2⟩ := hr
  have e1 : us = #[] := by have : us.toList = [] := h1; exact Array.toList_inj.1 (by simpa using this)
  have e2 : vs = #[] := by have : vs.toList = [] := h2; exact Array.toList_inj.1 (by simpa using this)
  subst e1; subst e2
  have : a.tmps[i]? = some (.func (.yield l) #[] #[]) := by simpa using hu
  simp [Act.eval, this]
theorem frel_str {P : Program} {N i : Nat} {s : List UInt8} {e : Nat → AV} {a : Act} (hf : Frel ρ (tab N e) a) (hi : i < N) (h : e i = .str s) : a.eval (.tmp i) = .string ⟨s.toArray⟩ := by
  obtain ⟨u, hu, hr⟩ := VRels.get i (e i) hf (tab_at e hi)
  rw [h] at hr
  cases hr
  have : a.tmps[i]? = some (.string ⟨s.toArray⟩) := by simpa using hu
  simp [Act.eval, this]
theorem frel_bool {P : Program} {N i : Nat} {b : Bool} {e : Nat → AV} {a : Act} (hf : Frel ρ (tab N e) a) (hi : i < N) (h : e i = .bool b) : a.eval (.tmp i) = .bool b := by
  obtain ⟨u, hu, hr⟩ := VRels.get i (e i) hf (tab_at e hi)
  rw [h] at hr
  cases hr
  have : a.tmps[i]? = some (.bool b) := by simpa using hu
  simp [Act.eval, this]
theorem frel_put {N d : Nat} {b : Bool} {e : Nat → AV} {a : Act} (hf : Frel ρ (tab N e) a) : Frel ρ (tab N (setE e d (.bool b))) (a.put (some d) (.bool b)) := by
  have := put_rel hf (some d) (v := .bool b) (u := .bool b) rfl
  rw [put_tab] at this
  exact this
theorem split_walk (hp : PrimsOk Tryd.prog pb15) (hr : PrimsRl pb15) (hm : Tryd.prog.follows .mixedOrders = true) (hn : plainNames Tryd.prog = true) {nx n l : Nat} {J : Nat → World → Prop} {Jx : World → Prop} {W : World} {cur0 : List UInt8} {us : Array Value}
    (h12 : b1 ≠ b2) (h13 : b1 ≠ b3) (h23 : b2 ≠ b3) (l1 : b1 < nx) (l2 : b2 < nx) (l3 : b3 < nx) (hlen : cur0.length ≤ 1000000)
    (hJq : ∀ i W1 W2, J i W1 → Quiet (Three ρ b1 b2 b3) W1 W2 → J i W2) (hJxq : ∀ W1 W2, Jx W1 → Quiet (Three ρ b1 b2 b3) W1 W2 → Jx W2)
    (hround : ∀ i x W1, ((splitB c cur0).map fun s => Value.string ⟨s.toArray⟩)[i]? = some x → J i W1 → ∀ m, YieldAt Fence.wide m Tryd.prog l #[x] W1 fun e W' =>
      (∀ B o, Three ρ b1 b2 b3 B → W1.heap[B]? = some o → W'.heap[B]? = some o) ∧ ((e = .returned (.bool true) ∧ J (i + 1) W') ∨ (e = .returned (.bool false) ∧ Jx W')))
    (hS : Sim Tryd.prog.globals.size ρ (KS nx b1 b2 b3 c t1 t2 t3 m1 m2 m3 cur0) W) (hus : VRels ρ [.ptr (some (b1, 0)), .ptr (some (b2, 0)), .ptr (some (b3, 0))] us.toList) (h0 : J 0 W) :
    CallsIn Fence.wide n Tryd.prog 36 (#[Value.func (.yield l) #[] #[]] ++ us) W fun e W' => (∃ v, e = .returned v) ∧ (J (splitB c cur0).length W' ∨ Jx W') := by
  have hwf : ∀ cur, Wf (KS nx b1 b2 b3 c t1 t2 t3 m1 m2 m3 cur) := fun cur => K3.wf l1 l2 l3 h12 h13 h23
  have hnext : ∀ cur, (KS nx b1 b2 b3 c t1 t2 t3 m1 m2 m3 cur).next = nx := fun cur => K3.next
  have hg1 : ∀ cur, (KS nx b1 b2 b3 c t1 t2 t3 m1 m2 m3 cur).get b1 = some (.cells [.str [c]] t1 true m1) := fun cur => by rw [K3.get h12 h13 h23]; simp
  have hg2 : ∀ cur, (KS nx b1 b2 b3 c t1 t2 t3 m1 m2 m3 cur).get b2 = some (.cells [.str cur] t2 true m2) := fun cur => by rw [K3.get h12 h13 h23]; simp [Ne.symm h12]
  have hg3 : ∀ cur, (KS nx b1 b2 b3 c t1 t2 t3 m1 m2 m3 cur).get b3 = some (.cells [.int .i64 0] t3 true m3) := fun cur => by rw [K3.get h12 h13 h23]; simp [Ne.symm h13, Ne.symm h23]
  have husz : us.size = 3 := by have := hus.length; simpa using this
  refine callsIn_of_wp Tryd.func36 rfl trivial ?_ rfl
  have hf0 : Frel ρ (tab 52 (argEnv [.func (.yield l) [] [], .ptr (some (b1, 0)), .ptr (some (b2, 0)), .ptr (some (b3, 0))])) { tmps := (#[Value.func (.yield l) #[] #[]] ++ us) ++ Array.replicate (Tryd.f36.ntmps - (#[Value.func (.yield l) #[] #[]] ++ us).size) Go.undef, defers := [] } := by
    rw [← args_tab (by simp)]
    simp only [Frel, Array.toList_append, Array.toList_replicate]
    have hsz : Tryd.f36.ntmps - (#[Value.func (.yield l) #[] #[]] ++ us).size = 48 := by simp [Tryd.ntmps36, husz]
    rw [hsz]
    refine VRels.append ?_ (VRels.replicate ρ _)
    exact ⟨_, _, rfl, ⟨#[], #[], rfl, rfl, rfl⟩, hus⟩
  generalize hA : ({ tmps := (#[Value.func (.yield l) #[] #[]] ++ us) ++ Array.replicate (Tryd.f36.ntmps - (#[Value.func (.yield l) #[] #[]] ++ us).size) Go.undef, defers := [] } : Act) = a0 at *
  have hd00 : a0.defers = [] := by rw [← hA]
  refine wpIn_seq ?_
  have hl1c : ([c] : List UInt8).length = 1 := rfl
  generalize hcp : ([c] : List UInt8) = pc at *
  refine Wq.wpIn (ro := none) (K := fun x e' H' => x = .normal ∧ H' = KS nx b1 b2 b3 c t1 t2 t3 m1 m2 m3 cur0 ∧ Env4 e' l b1 b2 b3) hp hr hm hn ?_ rfl hS hf0 (hwf _) (by rintro x e' H' ⟨_, rfl, _⟩; simp) ?_
  · have k1 := hg1 cur0
    refine walk (both k1 hl1c) ?_
    exact ⟨rfl, rfl, by simp [argEnv], by simp [argEnv], by simp [argEnv], by simp [argEnv]⟩
  · rintro x e' H' ρ' a' w' ⟨rfl, rfl, hE⟩ hg hf' hd
    obtain rfl : ρ' = ρ := KS.same hg rfl
    show Code.wpIn Fence.wide n Tryd.prog _ _ a' w'
    obtain ⟨M, hM⟩ : ∃ M, (splitB c cur0).length ≤ M := ⟨_, Nat.le_refl _⟩
    refine wpIn_seq (wpIn_block (wpIn_loop_rounds M ?_))
    have hJ := hJq 0 _ _ h0 (KS.quiet h12 h13 h23 hg)
    have hSc := hg.sim
    have hd0 : a'.defers = [] := by rw [hd, hd00]
    have hdrop : (splitB c cur0).drop 0 = splitB c cur0 := rfl
    clear h0 hS hf0 hA hd00 hd hg
    have hcl := hlen
    have hJ0 : ∃ i, i = 0 := ⟨_, rfl⟩
    obtain ⟨i, hi⟩ := hJ0
    rw [← hi] at hJ hdrop
    clear hi
    have hc0 : ∃ cur, cur = cur0 := ⟨_, rfl⟩
    obtain ⟨cur, hcur⟩ := hc0
    replace hdrop : (splitB c cur0).drop i = splitB c cur := by rw [hcur]; exact hdrop
    rw [← hcur] at hSc hM hcl
    clear hcur
    induction M generalizing i cur e' a' w' with
    | zero => exact absurd (List.eq_nil_of_length_eq_zero (by omega)) (splitB_ne c cur)
    | succ M ih =>
      rw [roundsIn_succ]
      have hE' := hE
      obtain ⟨g0, g1, g2, g3⟩ := hE'
      have k1 := hg1 cur
      have k2 := hg2 cur
      have k3 := hg3 cur
      refine wpIn_block (wpIn_seq ?_)
      refine Wq.wpIn (ro := none) (K := fun x e2 H2 => x = .normal ∧ H2 = KS nx b1 b2 b3 c t1 t2 t3 m1 m2 m3 cur ∧ Env4 e2 l b1 b2 b3 ∧ e2 7 = .int .i64 (Lib.indexByte cur c)) hp hr hm hn ?_ rfl hSc hf' (hwf _) (by rintro x e' H' ⟨_, rfl, _⟩; simp) ?_
      · refine walk (both g0 (both g1 (both g2 (both g3 (both k1 k2))))) ?_
        rw [← hcp]
        refine (idx38_ok cur c _).mono fun v H1 _ ⟨e1, e2⟩ => ?_
        subst e1; subst e2
        refine walk (both g0 (both g1 (both g2 g3))) ?_
        exact ⟨rfl, rfl, ⟨by simp [g0], by simp [g1], by simp [g2], by simp [g3]⟩, by simp⟩
      rintro x e2 H2 ρ2 a2 W2 ⟨rfl, rfl, hE2, h7⟩ hg2' hf2 hd2
      obtain rfl : ρ2 = ρ' := KS.same hg2' rfl
      have hJ2 := hJq _ _ _ hJ (KS.quiet h12 h13 h23 hg2')
      have hS2 := hg2'.sim
      rw [hd0] at hd2
      clear hJ hSc hg2' hf' hd0 hE g0 g1 g2 g3
      have hE2' := hE2
      obtain ⟨g0, g1, g2, g3⟩ := hE2'
      show Code.wpIn Fence.wide n Tryd.prog _ _ a2 W2
      refine wpIn_seq ?_
      by_cases hk : Lib.indexByte cur c < 0
      · refine Wq.wpIn (ro := none) (K := fun x e2 H2 => x = .exit 2 ∧ H2 = KS nx b1 b2 b3 c t1 t2 t3 m1 m2 m3 cur ∧ Env4 e2 l b1 b2 b3) hp hr hm hn ?_ rfl hS2 hf2 (hwf _) (by rintro x e' H' ⟨_, rfl, _⟩; simp) ?_
        · refine walk (both h7 hk) ?_
          exact ⟨rfl, rfl, by simp [g0], by simp [g1], by simp [g2], by simp [g3]⟩
        · rintro x e3 H3 ρ3 a3 W3 ⟨rfl, rfl, hE3⟩ hg3' hf3 hd3
          obtain rfl : ρ3 = ρ2 := KS.same hg3' rfl
          have hJ3 := hJq _ _ _ hJ2 (KS.quiet h12 h13 h23 hg3')
          have hS3 := hg3'.sim
          rw [hd2] at hd3
          obtain ⟨f0, f1, f2, f3⟩ := hE3
          show Code.wpIn Fence.wide n Tryd.prog _ _ a3 W3
          refine wpIn_region ?_
          show wpOpsIn (Fr none) n Tryd.prog _ _ [0, 1, 2] a3 W3
          refine wpOps_step (e := e3) (v := .func (.yield l) [] []) (H1 := KS nx b1 b2 b3 c t1 t2 t3 m1 m2 m3 cur) hp hm hn rfl rfl (by simp [f0]) hS3 hf3 (hwf _) (fun b h1 h2 => absurd h1 (by omega)) ?_
          intro ρ4 a4 W4 hg4 hf4 hd4
          obtain rfl : ρ4 = ρ3 := KS.same hg4 rfl
          have hJ4 := hJq _ _ _ hJ3 (KS.quiet h12 h13 h23 hg4)
          refine wpOps_step (v := .str cur) (H1 := KS nx b1 b2 b3 c t1 t2 t3 m1 m2 m3 cur) hp hm hn rfl rfl (by simp [setEO, f2, k2]) hg4.sim hf4 (hwf _) (fun b h1 h2 => absurd h1 (by omega)) ?_
          intro ρ5 a5 W5 hg5 hf5 hd5
          obtain rfl : ρ5 = ρ4 := KS.same hg5 rfl
          have hJ5 := hJq _ _ _ hJ4 (KS.quiet h12 h13 h23 hg5)
          have hsp := splitB_none hk
          rw [hsp] at hdrop
          have hi1 : (splitB c cur0)[i]? = some cur := by
            have : ((splitB c cur0).drop i)[0]? = some cur := by rw [hdrop]; rfl
            simpa using this
          have hil : (splitB c cur0).length = i + 1 := by
            have := congrArg List.length hdrop
            have h2 := (List.getElem?_eq_some_iff.1 hi1).1
            rw [List.length_drop] at this
            simp at this; omega
          refine wpOps_yield (l := l) rfl rfl rfl (frel_yield (P := Tryd.prog) hf5 (by decide) (by simp [setEO, f0])) (fun m => by
            rw [frel_str (P := Tryd.prog) hf5 (i := 50) (s := cur) (by decide) (by simp [setEO])]
            exact hround i _ W5 (by rw [List.getElem?_map, hi1]; rfl) hJ5 m) ?_
          rintro e W6 ⟨hk6, (⟨rfl, hJ6⟩ | ⟨rfl, hJ6⟩)⟩
          · exact ⟨_, rfl, by rw [put_defers, hd5, hd4, hd3], _, results_none rfl _ _ _, ⟨_, rfl⟩, .inl (by rw [hil]; exact hJ6)⟩
          · exact ⟨_, rfl, by rw [put_defers, hd5, hd4, hd3], _, results_none rfl _ _ _, ⟨_, rfl⟩, .inr hJ6⟩
      · obtain ⟨k, hkk⟩ : ∃ k : Nat, Lib.indexByte cur c = k := ⟨(Lib.indexByte cur c).toNat, by omega⟩
        rw [hkk] at h7
        have hkl := idx_lt c cur
        rw [hkk] at hkl
        have hkl' : k < cur.length := by omega
        have hsp := splitB_some hkk
        have hk0 : ¬ ((k : Int) < 0) := by omega
        refine Wq.wpIn (ro := none) (K := fun x e2 H2 => x = .normal ∧ H2 = KS nx b1 b2 b3 c t1 t2 t3 m1 m2 m3 cur ∧ Env4 e2 l b1 b2 b3 ∧ e2 7 = .int .i64 k) hp hr hm hn ?_ rfl hS2 hf2 (hwf _) (by rintro x e' H' ⟨_, rfl, _⟩; simp) ?_
        · refine walk (both h7 hk0) ?_
          exact ⟨rfl, rfl, ⟨by simp [g0], by simp [g1], by simp [g2], by simp [g3]⟩, by simp [h7]⟩
        rintro x e3 H3 ρ3 a3 W3 ⟨rfl, rfl, hE3, h73⟩ hg3' hf3 hd3
        obtain rfl : ρ3 = ρ2 := KS.same hg3' rfl
        have hJ3 := hJq _ _ _ hJ2 (KS.quiet h12 h13 h23 hg3')
        have hS3 := hg3'.sim
        rw [hd2] at hd3
        clear hJ2 hS2 hf2 hg3' hd2 h7 hE2 g0 g1 g2 g3
        have hE3' := hE3
        obtain ⟨g0, g1, g2, g3⟩ := hE3'
        show Code.wpIn Fence.wide n Tryd.prog _ _ a3 W3
        refine wpIn_seq ?_
        refine Wq.wpIn (ro := none) (K := fun x e2 H2 => x = .normal ∧ H2 = KS nx b1 b2 b3 c t1 t2 t3 m1 m2 m3 cur ∧ Env4 e2 l b1 b2 b3 ∧ e2 7 = .int .i64 k ∧ e2 8 = .str (cur.take k)) hp hr hm hn ?_ rfl hS3 hf3 (hwf _) (by rintro x e' H' ⟨_, rfl, _⟩; simp) ?_
        · refine walk (both g0 (both g1 (both g2 (both g3 (both h73 (both k2 (both k3 hkl'))))))) ?_
          exact ⟨rfl, rfl, ⟨by simp [g0], by simp [g1], by simp [g2], by simp [g3]⟩, by simp [h73], by simp⟩
        rintro x e4 H4 ρ4 a4 W4 ⟨rfl, rfl, hE4, h74, h84⟩ hg4' hf4 hd4
        obtain rfl : ρ4 = ρ3 := KS.same hg4' rfl
        have hJ4 := hJq _ _ _ hJ3 (KS.quiet h12 h13 h23 hg4')
        have hS4 := hg4'.sim
        rw [hd3] at hd4
        clear hJ3 hS3 hf3 hg4' hd3 h73 hE3 g0 g1 g2 g3
        have hE4' := hE4
        obtain ⟨g0, g1, g2, g3⟩ := hE4'
        show Code.wpIn Fence.wide n Tryd.prog _ _ a4 W4
        refine wpIn_seq (wpIn_seq ?_)
        refine wpIn_region ?_
        show wpOpsIn (Fr none) n Tryd.prog _ _ [0, 1, 2, 3] a4 W4
        refine wpOps_step (e := e4) (v := .func (.yield l) [] []) (H1 := KS nx b1 b2 b3 c t1 t2 t3 m1 m2 m3 cur) hp hm hn rfl rfl (by simp [g0]) hS4 hf4 (hwf _) (fun b h1 h2 => absurd h1 (by omega)) ?_
        intro ρ5 a5 W5 hg5 hf5 hd5
        obtain rfl : ρ5 = ρ4 := KS.same hg5 rfl
        have hJ5 := hJq _ _ _ hJ4 (KS.quiet h12 h13 h23 hg5)
        refine wpOps_step (v := .str (cur.take k)) (H1 := KS nx b1 b2 b3 c t1 t2 t3 m1 m2 m3 cur) hp hm hn rfl rfl (by simp [setEO, h84]) hg5.sim hf5 (hwf _) (fun b h1 h2 => absurd h1 (by omega)) ?_
        intro ρ6 a6 W6 hg6 hf6 hd6
        obtain rfl : ρ6 = ρ5 := KS.same hg6 rfl
        have hJ6 := hJq _ _ _ hJ5 (KS.quiet h12 h13 h23 hg6)
        have hS6 := hg6.sim
        rw [hsp] at hdrop
        have hi1 : (splitB c cur0)[i]? = some (cur.take k) := by
          have : ((splitB c cur0).drop i)[0]? = some (cur.take k) := by rw [hdrop]; rfl
          simpa using this
        have hdrop' : (splitB c cur0).drop (i + 1) = splitB c (cur.drop (k + 1)) := by
          rw [← List.drop_drop, hdrop]; rfl
        have hM' : (splitB c (cur.drop (k + 1))).length ≤ M := by
          have := hM
          rw [hsp] at this
          simpa using this
        have hd6' : a6.defers = [] := by rw [hd6, hd5, hd4]
        have E6 : setEO (setEO e4 (some 39) (.func (.yield l) [] [])) (some 40) (.str (cur.take k)) 39 = .func (.yield l) [] [] ∧ setEO (setEO e4 (some 39) (.func (.yield l) [] [])) (some 40) (.str (cur.take k)) 40 = .str (cur.take k) ∧ Env4 (setEO (setEO e4 (some 39) (.func (.yield l) [] [])) (some 40) (.str (cur.take k))) l b1 b2 b3 ∧ setEO (setEO e4 (some 39) (.func (.yield l) [] [])) (some 40) (.str (cur.take k)) 7 = .int .i64 k :=
          ⟨by simp [setEO], by simp [setEO], ⟨by simp [setEO, g0], by simp [setEO, g1], by simp [setEO, g2], by simp [setEO, g3]⟩, by simp [setEO, h74]⟩
        have hf6' : Frel ρ6 (tab 52 (setEO (setEO e4 (some 39) (.func (.yield l) [] [])) (some 40) (.str (cur.take k)))) a6 := hf6
        clear hf6
        generalize setEO (setEO e4 (some 39) (.func (.yield l) [] [])) (some 40) (.str (cur.take k)) = e6 at *
        obtain ⟨E39, E40, ⟨f0, f1, f2, f3⟩, f7⟩ := E6
        refine wpOps_yield (l := l) rfl rfl rfl (frel_yield (P := Tryd.prog) hf6' (by decide) E39) (fun m => by
            rw [frel_str (P := Tryd.prog) hf6' (i := 40) (s := cur.take k) (by decide) E40]
            exact hround i _ W6 (by rw [List.getElem?_map, hi1]; rfl) hJ6 m) ?_
        rintro e W7 ⟨hk7, hcase⟩
        have hS7 := KS.still h12 h13 h23 hS6 hk7
        rcases hcase with ⟨rfl, hJ7⟩ | ⟨rfl, hJ7⟩
        · refine ⟨_, rfl, ?_⟩
          have hf7 := frel_put (d := 41) (b := true) hf6'
          refine wpOps_step (e := setE e6 41 (.bool true)) (v := .bool false) (H1 := KS nx b1 b2 b3 c t1 t2 t3 m1 m2 m3 cur) hp hm hn rfl rfl (by simp) hS7 hf7 (hwf _) (fun b h1 h2 => absurd h1 (by omega)) ?_
          intro ρ8 a8 W8 hg8 hf8 hd8
          obtain rfl : ρ8 = ρ6 := KS.same hg8 rfl
          have hJ8 := hJq _ _ _ hJ7 (KS.quiet h12 h13 h23 hg8)
          have hS8 := hg8.sim
          have hd8' : a8.defers = [] := by rw [hd8, put_defers, hd6']
          show Code.wpIn Fence.wide n Tryd.prog _ _ a8 W8
          refine wpIn_cond_false (frel_bool (P := Tryd.prog) hf8 (by decide) (by simp [setEO])) (wpIn_skip ?_)
          show Code.wpIn Fence.wide n Tryd.prog _ _ a8 W8
          have hf8' : Frel ρ8 (tab 52 (setE (setE e6 41 (.bool true)) 42 (.bool false))) a8 := hf8
          refine Wq.wpIn (ro := none) (K := fun x e2 H2 => x = .normal ∧ H2 = (KS nx b1 b2 b3 c t1 t2 t3 m1 m2 m3 cur).set b2 (.cells [.str (cur.drop (k + 1))] t2 true m2) ∧ Env4 e2 l b1 b2 b3) hp hr hm hn ?_ rfl hS8 hf8' (hwf _) (by rintro x e' H' ⟨_, rfl, _⟩; simp) ?_
          · refine walk (both f0 (both f1 (both f2 (both f3 (both f7 (both k1 (both k2 (both k3 (both hkl' hl1c))))))))) ?_
            exact ⟨rfl, rfl, ⟨by simp [f0], by simp [f1], by simp [f2], by simp [f3]⟩⟩
          · rintro x e9 H9 ρ9 a9 W9 ⟨rfl, rfl, hE9⟩ hg9 hf9 hd9
            obtain rfl : ρ9 = ρ8 := KS.same hg9 (by simp)
            have hS9 := KS.set h12 h13 h23 hg9.sim
            have hJ9 := hJq _ _ _ hJ8 (KS.quiet h12 h13 h23 hg9)
            exact ih e9 a9 W9 hE9 hf9 (by rw [hd9, hd8']) (i + 1) hJ9 (cur.drop (k + 1)) (by rw [List.length_drop]; omega) hM' hS9 hdrop'
        · refine ⟨_, rfl, ?_⟩
          have hf7 := frel_put (d := 41) (b := false) hf6'
          refine wpOps_step (e := setE e6 41 (.bool false)) (v := .bool true) (H1 := KS nx b1 b2 b3 c t1 t2 t3 m1 m2 m3 cur) hp hm hn rfl rfl (by simp) hS7 hf7 (hwf _) (fun b h1 h2 => absurd h1 (by omega)) ?_
          intro ρ8 a8 W8 hg8 hf8 hd8
          obtain rfl : ρ8 = ρ6 := KS.same hg8 rfl
          have hJ8 := hJxq _ _ hJ7 (KS.quiet h12 h13 h23 hg8)
          show Code.wpIn Fence.wide n Tryd.prog _ _ a8 W8
          refine wpIn_cond_true (frel_bool (P := Tryd.prog) hf8 (by decide) (by simp [setEO])) (wpIn_ret ?_)
          exact ⟨by rw [hd8, put_defers, hd6'], _, results_none rfl _ _ _, ⟨_, rfl⟩, .inr hJ8⟩
end
end Go.Abs
