/- A call with no argument that the kernel has evaluated from the empty memory, used wherever it stands. -/
import Derived.Test.YtpcchlcbmhmopaaAbCalls
namespace Go.Abs
set_option linter.unusedVariables false

def plainAV : AV → Bool
  | .bool _ => true
  | .int _ _ => true
  | .str _ => true
  | _ => false

theorem VRel.plain {ρ ρ' : Map} {v : AV} {u : Value} (h : plainAV v = true) (hv : VRel ρ v u) : VRel ρ' v u := by
  cases v <;> first | exact hv | cases h

/-- Functions of no argument, each with what it comes to. -/
def closedPrims (l : List (FuncId × AV)) : Prims := fun f => match l.find? fun p => p.1 == f with
  | some p => some fun args H => if args.isEmpty then some (p.2, H) else none
  | none => none

theorem Delivers.mono' {P : Program} {s : Sem Next} {w : World} {Q R : Value → World → Prop} (h : Delivers P s w Q) (k : ∀ u w', Q u w' → R u w') : Delivers P s w R := by
  unfold Delivers at h ⊢
  split at h <;> first | exact h.elim | exact k _ _ h | exact h.mono fun e w' ⟨u, he, hq⟩ => ⟨u, he, k _ _ hq⟩ | exact h

theorem closedPrims_ok {P : Program} (hm : P.follows .mixedOrders = true) (hn : plainNames P = true) {l : List (FuncId × AV)}
    (h : ∀ p ∈ l, plainAV p.2 = true ∧ ∃ n H', acall P noPrims n p.1 [] (Heap.start P.globals.size) = some (p.2, H')) : PrimsOk P (closedPrims l) := by
  refine ⟨?_, ?_⟩
  · intro f g hf args H v H' hg
    unfold closedPrims at hf
    split at hf
    · injection hf with hf
      subst hf
      simp only [] at hg
      split at hg
      · injection hg with hg; injection hg with _ hg; subst hg; exact Nat.le_refl _
      · cases hg
    · cases hf
  · intro f g hf args H v H' hg ρ w us hs hwf hfree hargs
    unfold closedPrims at hf
    split at hf
    · rename_i p hp
      injection hf with hf
      subst hf
      simp only [] at hg
      split at hg
      · rename_i he
        injection hg with hg; injection hg with h1 h2; subst h1; subst h2
        have hargs' : args = [] := by simpa using he
        subst hargs'
        have hmem := List.mem_of_find?_eq_some hp
        have hpf : p.1 = f := by simpa using List.find?_some hp
        obtain ⟨hpl, n, H', hrun⟩ := h p hmem
        rw [hpf] at hrun
        have hstart : Sim P.globals.size (fun g => if g < P.globals.size then some ⟨g, 0, 0⟩ else none) (Heap.start P.globals.size) w :=
          { obj := fun b o h => (by cases h), apart := fun b b' o o' p p' h => (by cases h), glob := fun g hg => ⟨⟨g, 0, 0⟩, by simp [hg], rfl, rfl⟩ }
        have hd := acall_ok (noPrims_ok P) hm hn n f [] _ _ _ hrun _ w us hstart (fun b _ => rfl) (fun b hb _ => by have : P.globals.size ≤ b := hb; simp; omega) hargs
        refine Delivers.mono' hd fun u w' ⟨ρ', hg, hv⟩ => ⟨ρ, ?_, VRel.plain hpl hv⟩
        have kept : ∀ (B : Nat) (o : Obj), w.heap[B]? = some o → w'.heap[B]? = some o := fun B o hB => hg.keeps.kept B o hB (by rintro ⟨b, o', p, h1, _⟩; cases h1)
        exact
          { sim := { obj := fun b o hb => (hs.obj b o hb).grow (Ext.refl ρ) kept, apart := hs.apart, glob := hs.glob }
            ext := Ext.refl ρ
            out := fun _ _ => rfl
            next := Nat.le_refl _
            dom := fun _ h _ => h
            ro := fun _ _ h _ _ => h
            keeps := { size := hg.keeps.size, kept := fun B o hB _ => kept B o hB, owns := fun B h => .inr h, tape := hg.keeps.tape, os := hg.keeps.os, output := hg.keeps.output } }
      · cases hg
    · cases hf

end Go.Abs
