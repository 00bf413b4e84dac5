/- Texts on the abstract machine, joined. -/
import Derived.Test.YtjbccgpaaaoljaaDoorKit04
import Derived.Lib.Bytealg

/- Functions told by contracts of the model's own calls that read memory: what was there stays. -/
namespace Go.Abs
set_option linter.unusedVariables false

/-- Functions told by a function over values and memory: the memory stays. -/
def memPrims (l : List (FuncId × (List AV → Heap → Option AV))) : Prims := fun f => match l.find? fun p => p.1 == f with
  | some p => some fun args H => match p.2 args H with
    | some v => some (v, H)
    | none => none
  | none => none
/-- A function of the program says what a function over values and memory says. -/
def MemSays (P : Program) (f : FuncId) (g : List AV → Heap → Option AV) : Prop :=
  ∃ fn, P.funcs[f]? = some fn ∧ (fn.name == "runtime.NumGoroutine") = false ∧ fn.body.isNone = false ∧
    ∀ (args : List AV) (H : Heap) (v : AV), g args H = some v → ∀ (ρ : Map) (us : Array Value) (w : World), Sim P.globals.size ρ H w → VRels ρ args us.toList → Calls P f us w fun e w' => ∃ u, e = .returned u ∧ VRel ρ v u ∧ KeptW w w'
theorem memPrims_ok {P : Program} {l : List (FuncId × (List AV → Heap → Option AV))} (h : ∀ p ∈ l, MemSays P p.1 p.2) : PrimsOk P (memPrims l) := by
  refine ⟨?_, ?_, ?_⟩
  · intro f g hf args H v H' hg
    unfold memPrims at hf
    split at hf
    · injection hf with hf
      subst hf
      simp only [] at hg
      split at hg
      · injection hg with hg; injection hg with _ hg; subst hg; exact Nat.le_refl _
      · cases hg
    · cases hf
  · intro f g hf args H v H' hg ρ w us hs hwf hfree hargs
    unfold memPrims at hf
    split at hf
    · rename_i p hp
      injection hf with hf
      subst hf
      simp only [] at hg
      split at hg
      · rename_i v' hv
        injection hg with hg; injection hg with h1 h2; subst h1; subst h2
        have hmem := List.mem_of_find?_eq_some hp
        have hpf : p.1 = f := by simpa using List.find?_some hp
        obtain ⟨fn, hfn, hname, hb, hsay⟩ := h p hmem
        rw [hpf] at hfn hsay
        have hc := hsay args _ v' hv ρ us w hs hargs
        unfold Does Delivers
        rw [run_callFunc_enter hfn hname hb]
        refine hc.mono fun e w' ⟨u, he, hvr, hk⟩ => ⟨u, he, ρ, ?_, hvr⟩
        exact
          { sim := { obj := fun b o hb => (hs.obj b o hb).grow (Ext.refl ρ) hk.kept, apart := hs.apart, glob := hs.glob }
            ext := Ext.refl ρ
            out := fun _ _ => rfl
            next := Nat.le_refl _
            dom := fun _ h _ => h
            ro := fun _ _ h _ _ => h
            keeps := { size := hk.size, kept := fun B o hB _ => hk.kept B o hB, owns := fun B h => .inr h, tape := hk.tape, os := hk.os, output := hk.output } }
      · cases hg
    · cases hf
  · refine seqPrims_of fun f g hf => ?_
    unfold memPrims at hf
    split at hf
    · rename_i p hp
      have hpf : p.1 = f := by simpa using List.find?_some hp
      obtain ⟨fn, hx⟩ := h p (List.mem_of_find?_eq_some hp)
      exact ⟨fn, by rw [← hpf]; exact hx.1⟩
    · cases hf
theorem memPrims_rl (l : List (FuncId × (List AV → Heap → Option AV))) : PrimsRl (memPrims l) := by
  intro f g hf args H v H' hg
  unfold memPrims at hf
  split at hf
  · injection hf with hf
    subst hf
    simp only [] at hg
    split at hg
    · injection hg with hg; injection hg with _ hg; subst hg; exact Rl.refl _
    · cases hg
  · cases hf
end Go.Abs

/- Stand-ins of internal/bytealg, for the abstract machine. -/
namespace Go.Abs
set_option linter.unusedVariables false

def cmpAV : List AV → Option AV
  | [.str a, .str b] => some (.int .i64 (Lib.compareBytes a b))
  | _ => none
def ibAV : List AV → Option AV
  | [.str s, .int .u8 c] => some (.int .i64 (Lib.indexByte s c.toNat.toUInt8))
  | _ => none
def countAV : List AV → Option AV
  | [.str s, .int .u8 c] => some (.int .i64 (Lib.countByte s c.toNat.toUInt8))
  | _ => none
theorem vrels_two {ρ : Map} {x y : AV} {us : Array Value} (h : VRels ρ [x, y] us.toList) : ∃ u v, us = #[u, v] ∧ VRel ρ x u ∧ VRel ρ y v := by
  obtain ⟨u, r, h1, hu, h2⟩ := h
  obtain ⟨v, s, h3, hv, h4⟩ := h2
  have hs : s = [] := h4
  subst hs
  subst h3
  refine ⟨u, v, ?_, hu, hv⟩
  obtain ⟨l⟩ := us
  simp only at h1
  subst h1
  rfl
section
variable {P : Program} {f : FuncId} {fn : Func}
theorem says_cmp (h1 : P.funcs[f]? = some fn) (h2 : (fn.name == "runtime.NumGoroutine") = false) (h3 : fn.body.isNone = true) (h4 : Extern.findNext fn = none) (h5 : Extern.find fn = some Extern.BytealgCompare.compare) : ExtSays P f cmpAV := by
  refine ⟨fn, _, h1, h2, h3, h4, h5, fun args v hg ρ us w hr => ?_⟩
  unfold cmpAV at hg
  split at hg
  · rename_i a b
    injection hg with hg; subst hg
    obtain ⟨u, x, rfl, hu, hx⟩ := vrels_two hr
    cases hu; cases hx
    exact ⟨_, Lib.run_compareString _ _ w, rfl⟩
  · cases hg
theorem says_ib (h1 : P.funcs[f]? = some fn) (h2 : (fn.name == "runtime.NumGoroutine") = false) (h3 : fn.body.isNone = true) (h4 : Extern.findNext fn = none) (h5 : Extern.find fn = some Extern.BytealgIndexByte.indexByte) : ExtSays P f ibAV := by
  refine ⟨fn, _, h1, h2, h3, h4, h5, fun args v hg ρ us w hr => ?_⟩
  unfold ibAV at hg
  split at hg
  · rename_i a b
    injection hg with hg; subst hg
    obtain ⟨u, x, rfl, hu, hx⟩ := vrels_two hr
    cases hu; cases hx
    exact ⟨_, Lib.run_indexByteString _ _ w, rfl⟩
  · cases hg
theorem says_count (h1 : P.funcs[f]? = some fn) (h2 : (fn.name == "runtime.NumGoroutine") = false) (h3 : fn.body.isNone = true) (h4 : Extern.findNext fn = none) (h5 : Extern.find fn = some Extern.BytealgCount.count) : ExtSays P f countAV := by
  refine ⟨fn, _, h1, h2, h3, h4, h5, fun args v hg ρ us w hr => ?_⟩
  unfold countAV at hg
  split at hg
  · rename_i a b
    injection hg with hg; subst hg
    obtain ⟨u, x, rfl, hu, hx⟩ := vrels_two hr
    cases hu; cases hx
    exact ⟨_, Lib.run_countString _ _ w, rfl⟩
  · cases hg
end
end Go.Abs

/- The walks, told once: each is a rule whose way is found where it is used. -/
namespace Go.Abs
set_option linter.unusedVariables false

/-- Facts, side by side. -/
theorem both {A B : Prop} (a : A) (b : B) : A ∧ B := ⟨a, b⟩
theorem none0 : (0 : Nat) = 0 := rfl

section
variable {P : Program} {prims : Prims} {N : Nat}
theorem Wq.label {l : Nat} {e : Nat → AV} {H : Heap} {Q : Post} (h : Q .normal e H) : Wq P prims N (.label l) e H Q := by
  unfold Wq Wp
  exact fun _ _ => ⟨0, .normal, e, H, rfl, h⟩
theorem wanted_undef {ops : Array Oper} {o : Oper} {e : Nat → AV} {j : Nat} {want : Bool} {d' : Tmp} (ho : o.guard = some (j, want)) (hj : yDst ops j = some d') (hN : d' < N) (hb : e d' = .undef) :
    wantedA ops (tab N e) o = false := by
  unfold yDst at hj
  unfold wantedA yieldedA
  cases hq : ops[j]? with
  | none => rw [hq] at hj; cases hj
  | some q =>
    rw [hq] at hj
    simp only [] at hj
    have ht : (tab N e)[d']? = some .undef := by rw [← hb]; simp [tab_at, hN]
    simp only [ho, hq, hj, ht]
    rfl
variable {ops : Array Oper} {d : Tmp} {op : Op} {t : TypeId} {pos : String} {after : Array Edge} {os : List Oper} {e : Nat → AV} {H : Heap} {K : (Nat → AV) → Heap → Prop}
/-- A guard that was itself passed over. -/
theorem Oq.gskipU {j : Nat} {want : Bool} {d' : Tmp} (hj : yDst ops j = some d') (hN : d' < N) (hb : e d' = .undef)
    (h : Oq P prims N ops os (setE e d .undef) H K) : Oq P prims N ops ({ dst := some d, op := op, type := t, pos := pos, after := after, guard := some (j, want) } :: os) e H K :=
  by
  unfold Oq at h ⊢
  exact fun hp hw => Ops.unwanted (wanted_undef rfl hj hN hb) (h hp hw)
end

theorem walk {F G G2 : Prop} (K : F) (g : G2) (way : F → G2 → G := by
    intro K g
    repeat (first
      | refine Oq.nil ?_ | refine Thenq.normal ?_ | refine Thenq.ret ?_ | refine Thenq.exit ?_ | refine Left.ret ?_ | refine Left.normal ?_ | refine Left.here ?_ | refine Left.beyond (by decide) ?_ | refine Roundq.ret ?_ | refine Roundq.exit ?_
      | refine Wq.seq ?_ | refine Wq.region ?_ | refine Wq.block ?_ | refine Wq.scope ?_ | refine Wq.ret ?_ | refine Wq.skip ?_ | refine Wq.exit ?_
      | refine Oq.o1 (by simp (disch := omega) [K, -getElem?_pos, wrapI64, tdivN, tmodN, ipos, ineg, dpos, dneg, slc_l, slc_h, slc_lh, slc_hm, slc_lhm, slc_0, slcR_some, slcR_none, cutS_ok, cutA_ok, byteAt_ok]; first | done | (repeat' (first | rfl | apply And.intro))) ?_ | refine Oq.o0 (by simp (disch := omega) [K, -getElem?_pos, wrapI64, tdivN, tmodN, ipos, ineg, dpos, dneg, slc_l, slc_h, slc_lh, slc_hm, slc_lhm, slc_0, slcR_some, slcR_none, cutS_ok, cutA_ok, byteAt_ok]; first | done | (repeat' (first | rfl | apply And.intro))) ?_
      | refine Wq.label ?_ | refine Oq.gskipU rfl (by decide) (by simp (disch := omega) [K, -getElem?_pos, wrapI64, tdivN, tmodN, ipos, ineg, dpos, dneg, slc_l, slc_h, slc_lh, slc_hm, slc_lhm, slc_0, slcR_some, slcR_none, cutS_ok, cutA_ok, byteAt_ok]; first | done | fail) ?_ | refine Oq.gskip rfl (by decide) (by simp (disch := omega) [K, -getElem?_pos, wrapI64, tdivN, tmodN, ipos, ineg, dpos, dneg, slc_l, slc_h, slc_lh, slc_hm, slc_lhm, slc_0, slcR_some, slcR_none, cutS_ok, cutA_ok, byteAt_ok]; first | done | fail) ?_ | refine Oq.gop rfl (by decide) (by simp (disch := omega) [K, -getElem?_pos, wrapI64, tdivN, tmodN, ipos, ineg, dpos, dneg, slc_l, slc_h, slc_lh, slc_hm, slc_lhm, slc_0, slcR_some, slcR_none, cutS_ok, cutA_ok, byteAt_ok]; first | done | fail) (by simp (disch := omega) [K, -getElem?_pos, wrapI64, tdivN, tmodN, ipos, ineg, dpos, dneg, slc_l, slc_h, slc_lh, slc_hm, slc_lhm, slc_0, slcR_some, slcR_none, cutS_ok, cutA_ok, byteAt_ok]; first | done | (repeat' (first | rfl | apply And.intro))) ?_ | refine Oq.gskip0 rfl (by decide) (by simp (disch := omega) [K, -getElem?_pos, wrapI64, tdivN, tmodN, ipos, ineg, dpos, dneg, slc_l, slc_h, slc_lh, slc_hm, slc_lhm, slc_0, slcR_some, slcR_none, cutS_ok, cutA_ok, byteAt_ok]; first | done | fail) ?_ | refine Oq.gop0 rfl (by decide) (by simp (disch := omega) [K, -getElem?_pos, wrapI64, tdivN, tmodN, ipos, ineg, dpos, dneg, slc_l, slc_h, slc_lh, slc_hm, slc_lhm, slc_0, slcR_some, slcR_none, cutS_ok, cutA_ok, byteAt_ok]; first | done | fail) (by simp (disch := omega) [K, -getElem?_pos, wrapI64, tdivN, tmodN, ipos, ineg, dpos, dneg, slc_l, slc_h, slc_lh, slc_hm, slc_lhm, slc_0, slcR_some, slcR_none, cutS_ok, cutA_ok, byteAt_ok]; first | done | (repeat' (first | rfl | apply And.intro))) ?_
      | refine Oq.call (by first | rfl | (simp (disch := omega) [K, -getElem?_pos, wrapI64, tdivN, tmodN, ipos, ineg, dpos, dneg, slc_l, slc_h, slc_lh, slc_hm, slc_lhm, slc_0, slcR_some, slcR_none, cutS_ok, cutA_ok, byteAt_ok]; first | done | exact ⟨rfl, rfl, rfl⟩ | rfl)) (by simp (disch := omega) [K, -getElem?_pos, wrapI64, tdivN, tmodN, ipos, ineg, dpos, dneg, slc_l, slc_h, slc_lh, slc_hm, slc_lhm, slc_0, slcR_some, slcR_none, cutS_ok, cutA_ok, byteAt_ok]; first | done | rfl) (by simp only [List.nil_append, List.append_nil, List.cons_append]; first | done | rfl) ?_ | refine Oq.call0 (by first | rfl | (simp (disch := omega) [K, -getElem?_pos, wrapI64, tdivN, tmodN, ipos, ineg, dpos, dneg, slc_l, slc_h, slc_lh, slc_hm, slc_lhm, slc_0, slcR_some, slcR_none, cutS_ok, cutA_ok, byteAt_ok]; first | done | exact ⟨rfl, rfl, rfl⟩ | rfl)) (by simp (disch := omega) [K, -getElem?_pos, wrapI64, tdivN, tmodN, ipos, ineg, dpos, dneg, slc_l, slc_h, slc_lh, slc_hm, slc_lhm, slc_0, slcR_some, slcR_none, cutS_ok, cutA_ok, byteAt_ok]; first | done | rfl) (by simp only [List.nil_append, List.append_nil, List.cons_append]; first | done | rfl) ?_ | refine Oq.gcall rfl (by decide) (by simp (disch := omega) [K, -getElem?_pos, wrapI64, tdivN, tmodN, ipos, ineg, dpos, dneg, slc_l, slc_h, slc_lh, slc_hm, slc_lhm, slc_0, slcR_some, slcR_none, cutS_ok, cutA_ok, byteAt_ok]; first | done | fail) (by first | rfl | (simp (disch := omega) [K, -getElem?_pos, wrapI64, tdivN, tmodN, ipos, ineg, dpos, dneg, slc_l, slc_h, slc_lh, slc_hm, slc_lhm, slc_0, slcR_some, slcR_none, cutS_ok, cutA_ok, byteAt_ok]; first | done | exact ⟨rfl, rfl, rfl⟩ | rfl)) (by simp (disch := omega) [K, -getElem?_pos, wrapI64, tdivN, tmodN, ipos, ineg, dpos, dneg, slc_l, slc_h, slc_lh, slc_hm, slc_lhm, slc_0, slcR_some, slcR_none, cutS_ok, cutA_ok, byteAt_ok]; first | done | rfl) (by simp only [List.nil_append, List.append_nil, List.cons_append]; first | done | rfl) ?_
      | refine Wq.condT (by simp (disch := omega) [K, -getElem?_pos, wrapI64, tdivN, tmodN, ipos, ineg, dpos, dneg, slc_l, slc_h, slc_lh, slc_hm, slc_lhm, slc_0, slcR_some, slcR_none, cutS_ok, cutA_ok, byteAt_ok]; first | done | fail) ?_ | refine Wq.condF (by simp (disch := omega) [K, -getElem?_pos, wrapI64, tdivN, tmodN, ipos, ineg, dpos, dneg, slc_l, slc_h, slc_lh, slc_hm, slc_lhm, slc_0, slcR_some, slcR_none, cutS_ok, cutA_ok, byteAt_ok]; first | done | fail) ?_
      | refine Ret.ret (by simp (disch := omega) [K, -getElem?_pos, wrapI64, tdivN, tmodN, ipos, ineg, dpos, dneg, slc_l, slc_h, slc_lh, slc_hm, slc_lhm, slc_0, slcR_some, slcR_none, cutS_ok, cutA_ok, byteAt_ok]; first | done | (repeat' (first | rfl | apply And.intro))) (by simp only [tupled]; first | done | rfl) ?_ | refine Ret.normal (by simp (disch := omega) [K, -getElem?_pos, wrapI64, tdivN, tmodN, ipos, ineg, dpos, dneg, slc_l, slc_h, slc_lh, slc_hm, slc_lhm, slc_0, slcR_some, slcR_none, cutS_ok, cutA_ok, byteAt_ok]; first | done | (repeat' (first | rfl | apply And.intro))) (by simp only [tupled]; first | done | rfl) ?_)
    exact g) : G := way K g

theorem walkr {F G G2 : Prop} (K : F) (g : G2) (way : F → G2 → G := by
    intro K g
    repeat (first
      | refine Oq.nil ?_ | refine Thenq.normal ?_ | refine Thenq.ret ?_ | refine Thenq.exit ?_ | refine Left.ret ?_ | refine Left.normal ?_ | refine Left.here ?_ | refine Left.beyond (by decide) ?_ | refine Roundq.ret ?_ | refine Roundq.exit ?_
      | refine Wq.region ?_ | refine Wq.block ?_ | refine Wq.scope ?_ | refine Wq.ret ?_ | refine Wq.skip ?_ | refine Wq.exit ?_
      | refine Oq.o1 (by simp (disch := omega) [K, -getElem?_pos, wrapI64, tdivN, tmodN, ipos, ineg, dpos, dneg, slc_l, slc_h, slc_lh, slc_hm, slc_lhm, slc_0, slcR_some, slcR_none, cutS_ok, cutA_ok, byteAt_ok]; first | done | (repeat' (first | rfl | apply And.intro))) ?_ | refine Oq.o0 (by simp (disch := omega) [K, -getElem?_pos, wrapI64, tdivN, tmodN, ipos, ineg, dpos, dneg, slc_l, slc_h, slc_lh, slc_hm, slc_lhm, slc_0, slcR_some, slcR_none, cutS_ok, cutA_ok, byteAt_ok]; first | done | (repeat' (first | rfl | apply And.intro))) ?_
      | refine Wq.label ?_ | refine Oq.gskipU rfl (by decide) (by simp (disch := omega) [K, -getElem?_pos, wrapI64, tdivN, tmodN, ipos, ineg, dpos, dneg, slc_l, slc_h, slc_lh, slc_hm, slc_lhm, slc_0, slcR_some, slcR_none, cutS_ok, cutA_ok, byteAt_ok]; first | done | fail) ?_ | refine Oq.gskip rfl (by decide) (by simp (disch := omega) [K, -getElem?_pos, wrapI64, tdivN, tmodN, ipos, ineg, dpos, dneg, slc_l, slc_h, slc_lh, slc_hm, slc_lhm, slc_0, slcR_some, slcR_none, cutS_ok, cutA_ok, byteAt_ok]; first | done | fail) ?_ | refine Oq.gop rfl (by decide) (by simp (disch := omega) [K, -getElem?_pos, wrapI64, tdivN, tmodN, ipos, ineg, dpos, dneg, slc_l, slc_h, slc_lh, slc_hm, slc_lhm, slc_0, slcR_some, slcR_none, cutS_ok, cutA_ok, byteAt_ok]; first | done | fail) (by simp (disch := omega) [K, -getElem?_pos, wrapI64, tdivN, tmodN, ipos, ineg, dpos, dneg, slc_l, slc_h, slc_lh, slc_hm, slc_lhm, slc_0, slcR_some, slcR_none, cutS_ok, cutA_ok, byteAt_ok]; first | done | (repeat' (first | rfl | apply And.intro))) ?_ | refine Oq.gskip0 rfl (by decide) (by simp (disch := omega) [K, -getElem?_pos, wrapI64, tdivN, tmodN, ipos, ineg, dpos, dneg, slc_l, slc_h, slc_lh, slc_hm, slc_lhm, slc_0, slcR_some, slcR_none, cutS_ok, cutA_ok, byteAt_ok]; first | done | fail) ?_ | refine Oq.gop0 rfl (by decide) (by simp (disch := omega) [K, -getElem?_pos, wrapI64, tdivN, tmodN, ipos, ineg, dpos, dneg, slc_l, slc_h, slc_lh, slc_hm, slc_lhm, slc_0, slcR_some, slcR_none, cutS_ok, cutA_ok, byteAt_ok]; first | done | fail) (by simp (disch := omega) [K, -getElem?_pos, wrapI64, tdivN, tmodN, ipos, ineg, dpos, dneg, slc_l, slc_h, slc_lh, slc_hm, slc_lhm, slc_0, slcR_some, slcR_none, cutS_ok, cutA_ok, byteAt_ok]; first | done | (repeat' (first | rfl | apply And.intro))) ?_
      | refine Oq.call (by first | rfl | (simp (disch := omega) [K, -getElem?_pos, wrapI64, tdivN, tmodN, ipos, ineg, dpos, dneg, slc_l, slc_h, slc_lh, slc_hm, slc_lhm, slc_0, slcR_some, slcR_none, cutS_ok, cutA_ok, byteAt_ok]; first | done | exact ⟨rfl, rfl, rfl⟩ | rfl)) (by simp (disch := omega) [K, -getElem?_pos, wrapI64, tdivN, tmodN, ipos, ineg, dpos, dneg, slc_l, slc_h, slc_lh, slc_hm, slc_lhm, slc_0, slcR_some, slcR_none, cutS_ok, cutA_ok, byteAt_ok]; first | done | rfl) (by simp only [List.nil_append, List.append_nil, List.cons_append]; first | done | rfl) ?_ | refine Oq.call0 (by first | rfl | (simp (disch := omega) [K, -getElem?_pos, wrapI64, tdivN, tmodN, ipos, ineg, dpos, dneg, slc_l, slc_h, slc_lh, slc_hm, slc_lhm, slc_0, slcR_some, slcR_none, cutS_ok, cutA_ok, byteAt_ok]; first | done | exact ⟨rfl, rfl, rfl⟩ | rfl)) (by simp (disch := omega) [K, -getElem?_pos, wrapI64, tdivN, tmodN, ipos, ineg, dpos, dneg, slc_l, slc_h, slc_lh, slc_hm, slc_lhm, slc_0, slcR_some, slcR_none, cutS_ok, cutA_ok, byteAt_ok]; first | done | rfl) (by simp only [List.nil_append, List.append_nil, List.cons_append]; first | done | rfl) ?_ | refine Oq.gcall rfl (by decide) (by simp (disch := omega) [K, -getElem?_pos, wrapI64, tdivN, tmodN, ipos, ineg, dpos, dneg, slc_l, slc_h, slc_lh, slc_hm, slc_lhm, slc_0, slcR_some, slcR_none, cutS_ok, cutA_ok, byteAt_ok]; first | done | fail) (by first | rfl | (simp (disch := omega) [K, -getElem?_pos, wrapI64, tdivN, tmodN, ipos, ineg, dpos, dneg, slc_l, slc_h, slc_lh, slc_hm, slc_lhm, slc_0, slcR_some, slcR_none, cutS_ok, cutA_ok, byteAt_ok]; first | done | exact ⟨rfl, rfl, rfl⟩ | rfl)) (by simp (disch := omega) [K, -getElem?_pos, wrapI64, tdivN, tmodN, ipos, ineg, dpos, dneg, slc_l, slc_h, slc_lh, slc_hm, slc_lhm, slc_0, slcR_some, slcR_none, cutS_ok, cutA_ok, byteAt_ok]; first | done | rfl) (by simp only [List.nil_append, List.append_nil, List.cons_append]; first | done | rfl) ?_
      | refine Wq.condT (by simp (disch := omega) [K, -getElem?_pos, wrapI64, tdivN, tmodN, ipos, ineg, dpos, dneg, slc_l, slc_h, slc_lh, slc_hm, slc_lhm, slc_0, slcR_some, slcR_none, cutS_ok, cutA_ok, byteAt_ok]; first | done | fail) ?_ | refine Wq.condF (by simp (disch := omega) [K, -getElem?_pos, wrapI64, tdivN, tmodN, ipos, ineg, dpos, dneg, slc_l, slc_h, slc_lh, slc_hm, slc_lhm, slc_0, slcR_some, slcR_none, cutS_ok, cutA_ok, byteAt_ok]; first | done | fail) ?_
      | refine Ret.ret (by simp (disch := omega) [K, -getElem?_pos, wrapI64, tdivN, tmodN, ipos, ineg, dpos, dneg, slc_l, slc_h, slc_lh, slc_hm, slc_lhm, slc_0, slcR_some, slcR_none, cutS_ok, cutA_ok, byteAt_ok]; first | done | (repeat' (first | rfl | apply And.intro))) (by simp only [tupled]; first | done | rfl) ?_ | refine Ret.normal (by simp (disch := omega) [K, -getElem?_pos, wrapI64, tdivN, tmodN, ipos, ineg, dpos, dneg, slc_l, slc_h, slc_lh, slc_hm, slc_lhm, slc_0, slcR_some, slcR_none, cutS_ok, cutA_ok, byteAt_ok]; first | done | (repeat' (first | rfl | apply And.intro))) (by simp only [tupled]; first | done | rfl) ?_)
    exact g) : G := way K g

theorem mwalk {F G G2 : Prop} (K : F) (g : G2) (way : F → G2 → G := by
    intro K g
    repeat (first
      | refine Dq.nil ?_ | refine Dq.o1 rfl rfl met_none (by simp (disch := omega) [K, -getElem?_pos, wrapI64, tdivN, tmodN, ipos, ineg, dpos, dneg, slc_l, slc_h, slc_lh, slc_hm, slc_lhm, slc_0, slcR_some, slcR_none, cutS_ok, cutA_ok, byteAt_ok]; first | done | (repeat' (first | rfl | apply And.intro))) ?_
      | refine Dq.load rfl met_none (by simp (disch := omega) [K, -getElem?_pos, wrapI64, tdivN, tmodN, ipos, ineg, dpos, dneg, slc_l, slc_h, slc_lh, slc_hm, slc_lhm, slc_0, slcR_some, slcR_none, cutS_ok, cutA_ok, byteAt_ok]; first | done | (repeat' (first | rfl | apply And.intro))) (by refine ⟨_, (by simp (disch := omega) [K, -getElem?_pos, wrapI64, tdivN, tmodN, ipos, ineg, dpos, dneg, slc_l, slc_h, slc_lh, slc_hm, slc_lhm, slc_0, slcR_some, slcR_none, cutS_ok, cutA_ok, byteAt_ok]; first | done | rfl), (by simp (disch := omega) [K, -getElem?_pos, wrapI64, tdivN, tmodN, ipos, ineg, dpos, dneg, slc_l, slc_h, slc_lh, slc_hm, slc_lhm, slc_0, slcR_some, slcR_none, cutS_ok, cutA_ok, byteAt_ok]; first | done | fail)⟩) (by simp (disch := omega) [K, -getElem?_pos, wrapI64, tdivN, tmodN, ipos, ineg, dpos, dneg, slc_l, slc_h, slc_lh, slc_hm, slc_lhm, slc_0, slcR_some, slcR_none, cutS_ok, cutA_ok, byteAt_ok]; first | done | (repeat' (first | rfl | apply And.intro))) ?_
      | refine Dq.h1 rfl rfl met_none (by simp (disch := omega) [K, -getElem?_pos, wrapI64, tdivN, tmodN, ipos, ineg, dpos, dneg, slc_l, slc_h, slc_lh, slc_hm, slc_lhm, slc_0, slcR_some, slcR_none, cutS_ok, cutA_ok, byteAt_ok]; first | done | (repeat' (first | rfl | apply And.intro))) ?_ | refine Dq.h0 rfl rfl met_none (by simp (disch := omega) [K, -getElem?_pos, wrapI64, tdivN, tmodN, ipos, ineg, dpos, dneg, slc_l, slc_h, slc_lh, slc_hm, slc_lhm, slc_0, slcR_some, slcR_none, cutS_ok, cutA_ok, byteAt_ok]; first | done | (repeat' (first | rfl | apply And.intro))) ?_
      | refine Dq.call rfl met_none (by first | rfl | (simp (disch := omega) [K, -getElem?_pos, wrapI64, tdivN, tmodN, ipos, ineg, dpos, dneg, slc_l, slc_h, slc_lh, slc_hm, slc_lhm, slc_0, slcR_some, slcR_none, cutS_ok, cutA_ok, byteAt_ok]; first | done | exact ⟨rfl, rfl, rfl⟩ | rfl)) (by simp (disch := omega) [K, -getElem?_pos, wrapI64, tdivN, tmodN, ipos, ineg, dpos, dneg, slc_l, slc_h, slc_lh, slc_hm, slc_lhm, slc_0, slcR_some, slcR_none, cutS_ok, cutA_ok, byteAt_ok]; first | done | rfl) (by simp only [List.nil_append, List.append_nil, List.cons_append]; first | done | rfl) ?_
      | refine Dq.o1 rfl rfl (met_some rfl (by decide) (by simp (disch := omega) [K, -getElem?_pos, wrapI64, tdivN, tmodN, ipos, ineg, dpos, dneg, slc_l, slc_h, slc_lh, slc_hm, slc_lhm, slc_0, slcR_some, slcR_none, cutS_ok, cutA_ok, byteAt_ok]; first | done | fail)) (by simp (disch := omega) [K, -getElem?_pos, wrapI64, tdivN, tmodN, ipos, ineg, dpos, dneg, slc_l, slc_h, slc_lh, slc_hm, slc_lhm, slc_0, slcR_some, slcR_none, cutS_ok, cutA_ok, byteAt_ok]; first | done | (repeat' (first | rfl | apply And.intro))) ?_
      | refine Dq.load rfl (met_some rfl (by decide) (by simp (disch := omega) [K, -getElem?_pos, wrapI64, tdivN, tmodN, ipos, ineg, dpos, dneg, slc_l, slc_h, slc_lh, slc_hm, slc_lhm, slc_0, slcR_some, slcR_none, cutS_ok, cutA_ok, byteAt_ok]; first | done | fail)) (by simp (disch := omega) [K, -getElem?_pos, wrapI64, tdivN, tmodN, ipos, ineg, dpos, dneg, slc_l, slc_h, slc_lh, slc_hm, slc_lhm, slc_0, slcR_some, slcR_none, cutS_ok, cutA_ok, byteAt_ok]; first | done | (repeat' (first | rfl | apply And.intro))) (by refine ⟨_, (by simp (disch := omega) [K, -getElem?_pos, wrapI64, tdivN, tmodN, ipos, ineg, dpos, dneg, slc_l, slc_h, slc_lh, slc_hm, slc_lhm, slc_0, slcR_some, slcR_none, cutS_ok, cutA_ok, byteAt_ok]; first | done | rfl), (by simp (disch := omega) [K, -getElem?_pos, wrapI64, tdivN, tmodN, ipos, ineg, dpos, dneg, slc_l, slc_h, slc_lh, slc_hm, slc_lhm, slc_0, slcR_some, slcR_none, cutS_ok, cutA_ok, byteAt_ok]; first | done | fail)⟩) (by simp (disch := omega) [K, -getElem?_pos, wrapI64, tdivN, tmodN, ipos, ineg, dpos, dneg, slc_l, slc_h, slc_lh, slc_hm, slc_lhm, slc_0, slcR_some, slcR_none, cutS_ok, cutA_ok, byteAt_ok]; first | done | (repeat' (first | rfl | apply And.intro))) ?_
      | refine Dq.h1 rfl rfl (met_some rfl (by decide) (by simp (disch := omega) [K, -getElem?_pos, wrapI64, tdivN, tmodN, ipos, ineg, dpos, dneg, slc_l, slc_h, slc_lh, slc_hm, slc_lhm, slc_0, slcR_some, slcR_none, cutS_ok, cutA_ok, byteAt_ok]; first | done | fail)) (by simp (disch := omega) [K, -getElem?_pos, wrapI64, tdivN, tmodN, ipos, ineg, dpos, dneg, slc_l, slc_h, slc_lh, slc_hm, slc_lhm, slc_0, slcR_some, slcR_none, cutS_ok, cutA_ok, byteAt_ok]; first | done | (repeat' (first | rfl | apply And.intro))) ?_ | refine Dq.h0 rfl rfl (met_some rfl (by decide) (by simp (disch := omega) [K, -getElem?_pos, wrapI64, tdivN, tmodN, ipos, ineg, dpos, dneg, slc_l, slc_h, slc_lh, slc_hm, slc_lhm, slc_0, slcR_some, slcR_none, cutS_ok, cutA_ok, byteAt_ok]; first | done | fail)) (by simp (disch := omega) [K, -getElem?_pos, wrapI64, tdivN, tmodN, ipos, ineg, dpos, dneg, slc_l, slc_h, slc_lh, slc_hm, slc_lhm, slc_0, slcR_some, slcR_none, cutS_ok, cutA_ok, byteAt_ok]; first | done | (repeat' (first | rfl | apply And.intro))) ?_
      | refine Dq.call rfl (met_some rfl (by decide) (by simp (disch := omega) [K, -getElem?_pos, wrapI64, tdivN, tmodN, ipos, ineg, dpos, dneg, slc_l, slc_h, slc_lh, slc_hm, slc_lhm, slc_0, slcR_some, slcR_none, cutS_ok, cutA_ok, byteAt_ok]; first | done | fail)) (by first | rfl | (simp (disch := omega) [K, -getElem?_pos, wrapI64, tdivN, tmodN, ipos, ineg, dpos, dneg, slc_l, slc_h, slc_lh, slc_hm, slc_lhm, slc_0, slcR_some, slcR_none, cutS_ok, cutA_ok, byteAt_ok]; first | done | exact ⟨rfl, rfl, rfl⟩ | rfl)) (by simp (disch := omega) [K, -getElem?_pos, wrapI64, tdivN, tmodN, ipos, ineg, dpos, dneg, slc_l, slc_h, slc_lh, slc_hm, slc_lhm, slc_0, slcR_some, slcR_none, cutS_ok, cutA_ok, byteAt_ok]; first | done | rfl) (by simp only [List.nil_append, List.append_nil, List.cons_append]; first | done | rfl) ?_
      | refine Dq.sl rfl rfl (unmet_some rfl (by decide) (by simp (disch := omega) [K, -getElem?_pos, wrapI64, tdivN, tmodN, ipos, ineg, dpos, dneg, slc_l, slc_h, slc_lh, slc_hm, slc_lhm, slc_0, slcR_some, slcR_none, cutS_ok, cutA_ok, byteAt_ok]; first | done | fail)) ?_ | refine Dq.sh rfl rfl (unmet_some rfl (by decide) (by simp (disch := omega) [K, -getElem?_pos, wrapI64, tdivN, tmodN, ipos, ineg, dpos, dneg, slc_l, slc_h, slc_lh, slc_hm, slc_lhm, slc_0, slcR_some, slcR_none, cutS_ok, cutA_ok, byteAt_ok]; first | done | fail)) ?_ | refine Dq.sh0 rfl rfl (unmet_some rfl (by decide) (by simp (disch := omega) [K, -getElem?_pos, wrapI64, tdivN, tmodN, ipos, ineg, dpos, dneg, slc_l, slc_h, slc_lh, slc_hm, slc_lhm, slc_0, slcR_some, slcR_none, cutS_ok, cutA_ok, byteAt_ok]; first | done | fail)) ?_)
    exact g) : G := way K g
end Go.Abs

/- Walking a function that yields: the pieces without a yield by the abstract machine; the yields by hand. -/
namespace Go.Abs
set_option linter.unusedVariables false
set_option linter.unusedSimpArgs false
section
variable {P : Program} {prims : Prims} {N : Nat} {ro : Option Nat} {nn : Nat} {Q : Exit → Act → World → Prop}

/-- A piece without a range, walked in the abstract machine. -/
theorem Wq.wpIn {c : Code} {e : Nat → AV} {H : Heap} {K : Post} {ρ : Map} {a : Act} {w : World} (hp : PrimsOk P prims) (hr : PrimsRl prims) (hm : P.follows .mixedOrders = true) (hn : plainNames P = true) (h : Wq P prims N c e H K) (hnr : noRange c = true)
    (hs : Sim P.globals.size ρ H w) (hf : Frel ρ (tab N e) a) (hwf : Wf H) (hfree : ∀ x e' H', K x e' H' → H'.next ≤ H.next)
    (hQ : ∀ x e' H' ρ' a' w', K x e' H' → Good P.globals.size ρ H w ρ' H' w' → Frel ρ' (tab N e') a' → a'.defers = a.defers → Q (exitOf x) a' w') : c.wpIn (Fr ro) nn P Q a w := by
  unfold Wq Wp at h
  obtain ⟨n, x, e', H', hrun, k⟩ := h hr hwf
  refine code_sound (acall_ok hp hm hn n) (acall_seq hp n) (acall_mono hp.1 n) hm c (.inr hnr) hrun hs hf hwf (fun b hb hb' => absurd (hfree x e' H' k) (by omega)) ?_
  intro ρ' a' w' hg hf' hd
  obtain ⟨ms, hms, _, hnil⟩ := hd
  rw [hnil hnr, List.nil_append] at hms
  exact hQ x e' H' ρ' a' w' k hg hf' hms

/-- An operation of a region, by the abstract machine. -/
theorem wpOps_step {ops : Array Oper} {i : Nat} {rest : List Nat} {o : Oper} {e : Nat → AV} {H H1 : Heap} {v : AV} {ρ : Map} {a : Act} {w : World} (hp : PrimsOk P prims) (hm : P.follows .mixedOrders = true) (hn : plainNames P = true)
    (ho : ops[i]? = some o) (hg : o.guard = none) (hr : opR P N e o.op H = some (v, H1)) (hs : Sim P.globals.size ρ H w) (hf : Frel ρ (tab N e) a) (hwf : Wf H) (hfree : ∀ b, H.next ≤ b → b < H1.next → ρ b = none)
    (h : ∀ ρ' a' w', Good P.globals.size ρ H w ρ' H1 w' → Frel ρ' (tab N (setEO e o.dst v)) a' → a'.defers = a.defers → wpOpsIn (Fr ro) nn P ops Q rest a' w') : wpOpsIn (Fr ro) nn P ops Q (i :: rest) a w := by
  simp only [wpOpsIn, ho]
  rw [if_pos (by simp [Region.wanted, hg])]
  have h1 : runOp P noCall (tab N e) o H = some (v, H1) := runOp_opR hr
  unfold runOp at h1
  split at h1
  case h_2 => cases h1
  rename_i s hsem
  have hno : CallOk P noCall := by intro f args H v H' h; cases h
  have hdo := sem_sound hno hsem hf hs.glob H w v H1 hs h1 hfree (fun _ _ => hwf)
  refine wp_of_delivers hdo ?_
  rintro u w1 ⟨ρ1, hg1, hv⟩
  refine h ρ1 _ w1 hg1 ?_ (put_defers _ _ _)
  rw [← put_tab]
  exact put_rel (VRels.mono hg1.ext _ _ hf) o.dst hv

theorem exec_yield {ρ : Operand → Value} {o : Oper} {x y : Operand} {ts : Array TypeId} {l : Nat} {w : World} {r : Next} (hop : o.op = .call { callee := .value x, args := #[y], argTypes := ts }) (hx : ρ x = .func (.yield l) #[] #[]) (hr : (Instr.yield l #[ρ y]).run P w = .ok r w) : (execOp ρ o).run P w = .ok r w := by
  unfold execOp
  rw [hop]
  simp only [resolve, hx]
  simp [go_sem, invoke, hr]
/-- A yield. -/
theorem wpOps_yield {ops : Array Oper} {i : Nat} {rest : List Nat} {o : Oper} {x y : Operand} {ts : Array TypeId} {l : Nat} {a : Act} {w : World} {R : Ending → World → Prop}
    (ho : ops[i]? = some o) (hg : o.guard = none) (hop : o.op = .call { callee := .value x, args := #[y], argTypes := ts }) (hx : a.eval x = .func (.yield l) #[] #[]) (hy : ∀ m, YieldAt Fence.wide m P l #[a.eval y] w R)
    (h : ∀ e W', R e W' → ∃ v, e = .returned v ∧ wpOpsIn (Fr ro) nn P ops Q rest (a.put o.dst v) W') : wpOpsIn (Fr ro) nn P ops Q (i :: rest) a w := by
  simp only [wpOpsIn, ho]
  rw [if_pos (by simp [Region.wanted, hg])]
  obtain ⟨fn, tmps, assign, body, hrun, hround⟩ := hy (nn - 1)
  unfold Oper.wpIn
  refine ⟨fun _ _ => trivial, ?_⟩
  rw [Oper.semAt_eq _ _ _ (by intro c hc; rw [hop] at hc; cases hc)]
  have he : (execOp a.eval o).run P w = .ok (.round l fn tmps assign body) w := exec_yield hop hx hrun
  rw [he]
  refine ⟨fun e => by simp [Fr, Fence.wide] at e, ?_⟩
  refine RoundIn.mono (show RoundIn (Fr ro) (nn - 1) P l fn tmps assign body w R from hround) ?_
  intro e W' hR
  obtain ⟨v, rfl, hv⟩ := h e W' hR
  exact hv
end
end Go.Abs
