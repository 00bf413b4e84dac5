/- Texts on the abstract machine, joined. -/
import Derived.Test.YtdndkchlkgldmaaKit04
import Derived.Shelf.Strings.OnBuilder
import Derived.Test.YtdndkchlkgldmaaKit06

/- Functions told by contracts of the model's own calls that read memory: what was there stays. -/
namespace Go.Abs
set_option linter.unusedVariables false

/-- Functions told by a function over values and memory: the memory stays. -/
def memPrims (l : List (FuncId × (List AV → Heap → Option AV))) : Prims := fun f => match l.find? fun p => p.1 == f with
  | some p => some fun args H => match p.2 args H with
    | some v => some (v, H)
    | none => none
  | none => none
/-- A function of the program says what a function over values and memory says. -/
def MemSays (P : Program) (f : FuncId) (g : List AV → Heap → Option AV) : Prop :=
  ∃ fn, P.funcs[f]? = some fn ∧ (fn.name == "runtime.NumGoroutine") = false ∧ fn.body.isNone = false ∧
    ∀ (args : List AV) (H : Heap) (v : AV), g args H = some v → ∀ (ρ : Map) (us : Array Value) (w : World), Sim P.globals.size ρ H w → VRels ρ args us.toList → Calls P f us w fun e w' => ∃ u, e = .returned u ∧ VRel ρ v u ∧ KeptW w w'
theorem memPrims_ok {P : Program} {l : List (FuncId × (List AV → Heap → Option AV))} (h : ∀ p ∈ l, MemSays P p.1 p.2) : PrimsOk P (memPrims l) := by
  refine ⟨?_, ?_, ?_⟩
  · intro f g hf args H v H' hg
    unfold memPrims at hf
    split at hf
    · injection hf with hf
      subst hf
      simp only [] at hg
      split at hg
      · injection hg with hg; injection hg with _ hg; subst hg; exact Nat.le_refl _
      · cases hg
    · cases hf
  · intro f g hf args H v H' hg ρ w us hs hwf hfree hargs
    unfold memPrims at hf
    split at hf
    · rename_i p hp
      injection hf with hf
      subst hf
      simp only [] at hg
      split at hg
      · rename_i v' hv
        injection hg with hg; injection hg with h1 h2; subst h1; subst h2
        have hmem := List.mem_of_find?_eq_some hp
        have hpf : p.1 = f := by simpa using List.find?_some hp
        obtain ⟨fn, hfn, hname, hb, hsay⟩ := h p hmem
        rw [hpf] at hfn hsay
        have hc := hsay args _ v' hv ρ us w hs hargs
        unfold Does Delivers
        rw [run_callFunc_enter hfn hname hb]
        refine hc.mono fun e w' ⟨u, he, hvr, hk⟩ => ⟨u, he, ρ, ?_, hvr⟩
        exact
          { sim := { obj := fun b o hb => (hs.obj b o hb).grow (Ext.refl ρ) hk.kept, apart := hs.apart, glob := hs.glob }
            ext := Ext.refl ρ
            out := fun _ _ => rfl
            next := Nat.le_refl _
            dom := fun _ h _ => h
            ro := fun _ _ h _ _ => h
            keeps := { size := hk.size, kept := fun B o hB _ => hk.kept B o hB, owns := fun B h => .inr h, tape := hk.tape, os := hk.os, output := hk.output } }
      · cases hg
    · cases hf
  · refine seqPrims_of fun f g hf => ?_
    unfold memPrims at hf
    split at hf
    · rename_i p hp
      have hpf : p.1 = f := by simpa using List.find?_some hp
      obtain ⟨fn, hx⟩ := h p (List.mem_of_find?_eq_some hp)
      exact ⟨fn, by rw [← hpf]; exact hx.1⟩
    · cases hf
theorem memPrims_rl (l : List (FuncId × (List AV → Heap → Option AV))) : PrimsRl (memPrims l) := by
  intro f g hf args H v H' hg
  unfold memPrims at hf
  split at hf
  · injection hf with hf
    subst hf
    simp only [] at hg
    split at hg
    · injection hg with hg; injection hg with _ hg; subst hg; exact Rl.refl _
    · cases hg
  · cases hf
end Go.Abs

/- strings.Join, told to the abstract machine. -/
namespace Go.Abs
open Go.Proofs Go.Shelf Go.RowKit
set_option linter.unusedVariables false

def unstr : List AV → Option (List (List UInt8))
  | [] => some []
  | .str s :: r => match unstr r with
    | some l => some (s :: l)
    | none => none
  | _ => none
theorem unstr_ok : ∀ {l : List AV} {xs : List (List UInt8)}, unstr l = some xs → l = xs.map AV.str
  | [], xs, h => by simp [unstr] at h; subst h; rfl
  | a :: r, xs, h => by
    cases a <;> simp only [unstr] at h <;> try (cases h; done)
    rename_i s
    cases hr : unstr r with
    | none => rw [hr] at h; cases h
    | some l =>
      rw [hr] at h
      injection h with h
      subst h
      rw [unstr_ok hr]; rfl
theorem unstr_map : ∀ xs : List (List UInt8), unstr (xs.map AV.str) = some xs
  | [] => rfl
  | x :: xs => by simp [unstr, unstr_map xs]
def joinAV : List AV → Heap → Option AV
  | [.slice a n cap ex, .str sep], H => if n = 0 then some (.str []) else match a with
    | some (b, o) => match H.get b with
      | some (.cells c _ _ _) => if o + n ≤ c.length ∧ n ≤ cap ∧ n ≤ 100000 then match unstr ((c.drop o).take n) with
          | some xs => if (Lib.join xs sep).length ≤ 140737488355328 then some (.str (Lib.join xs sep)) else none
          | none => none
        else none
      | _ => none
    | none => none
  | _, _ => none
theorem says_join {P : Program} {ρ : Ren} (L : Lays.n156 P ρ) (X : Builder.Extra P ρ) {f : FuncId} {fn : Func} (hf : ρ.f 156 = f) (h1 : P.funcs[f]? = some fn) (h2 : (fn.name == "runtime.NumGoroutine") = false) (h3 : fn.body.isNone = false) : MemSays P f joinAV := by
  subst hf
  refine ⟨fn, h1, h2, h3, fun args H v hg ρ' us w hs hr => ?_⟩
  unfold joinAV at hg
  split at hg
  case h_2 => cases hg
  rename_i a n cap ex sep
  obtain ⟨u, x, rfl, hu, hx⟩ := vrels_two hr
  cases hx
  split at hg
  · rename_i hn
    injection hg with hg; subst hg
    subst hn
    have hu' : ∃ y c', u = .slice y 0 c' := by
      cases a with
      | none => obtain ⟨_, _, rfl⟩ := hu; exact ⟨_, _, rfl⟩
      | some b => obtain ⟨p, x, c', _, rfl, _⟩ := hu; exact ⟨_, _, rfl⟩
    obtain ⟨y, c', rfl⟩ := hu'
    exact (Any.strings_Join_none L X y c' ⟨sep.toArray⟩ w).mono fun e w' ⟨he, hw⟩ => ⟨_, he, rfl, by subst hw; exact KeptW.rfl⟩
  · rename_i hn
    split at hg
    case h_2 => cases hg
    rename_i b o
    split at hg
    case h_2 => cases hg
    rename_i c t own mk hc
    split at hg
    case isFalse => cases hg
    rename_i hb
    split at hg
    case h_2 => cases hg
    rename_i xs hxs
    split at hg
    case isFalse => cases hg
    rename_i hjl
    injection hg with hg; subst hg
    obtain ⟨p, y, c', hp, rfl, hn1, hc1, hy, hc2⟩ := hu
    have hy' : y = ⟨p.blk, p.off + o, none⟩ := hy.resolve_left (by omega)
    subst hy'
    obtain ⟨p', C, e', fr, hp', hh, hcr, hl, ht, ho⟩ := hs.obj b _ hc
    rw [hp] at hp'
    injection hp' with hp'; subst hp'
    have hmap := unstr_ok hxs
    have hlen : xs.length = n := by
      have := congrArg List.length hmap
      rw [List.length_take, List.length_drop, List.length_map] at this
      omega
    have hB : (xs.map fun s => (⟨s.toArray⟩ : ByteArray)).length = n := by simp [hlen]
    have hJ : ((xs.map fun s => (⟨s.toArray⟩ : ByteArray)).map (·.data.toList)) = xs := by simp [List.map_map, Function.comp_def]
    have key := Any.strings_Join L X p.blk (p.off + o) c' (xs.map fun s => (⟨s.toArray⟩ : ByteArray)) ⟨sep.toArray⟩ w ?_ (heap_lt hh) (by rw [hB]; omega) (by rw [hB]; omega) (by rw [hJ]; exact hjl)
    · rw [hB, hJ] at key
      exact key.mono fun e w' ⟨he, hw⟩ => ⟨_, he, rfl, .of hw⟩
    · intro j z hz
      rw [List.getElem?_map] at hz
      cases hxj : xs[j]? with
      | none => rw [hxj] at hz; cases hz
      | some s =>
        rw [hxj] at hz
        injection hz with hz; subst hz
        have hjn : j < n := by have := (List.getElem?_eq_some_iff.1 hxj).1; omega
        have hcj : c[o + j]? = some (.str s) := by
          have : ((c.drop o).take n)[j]? = some (.str s) := by rw [hmap, List.getElem?_map, hxj]; rfl
          rw [List.getElem?_take_of_lt hjn, List.getElem?_drop] at this
          exact this
        obtain ⟨v, hv, hvr⟩ := hcr _ _ hcj
        cases hvr
        simp only [World.cell?, hh]
        rw [if_neg (by simp), Nat.add_assoc]
        exact hv
end Go.Abs
