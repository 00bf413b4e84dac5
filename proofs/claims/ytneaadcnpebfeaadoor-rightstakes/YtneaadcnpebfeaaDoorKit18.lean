/- Texts on the abstract machine, joined. -/
import Derived.Test.YtneaadcnpebfeaaDoorKit04
import Derived.SizedLaws
import Derived.ChangeArms

/- A law's call where tables are laid and what comes in is of a size that fits a machine. -/
namespace Go.Abs
open Go.RowKit Go.WideShapes Go.ChangeShapes
set_option linter.unusedVariables false
set_option linter.unusedSimpArgs false

section
variable {P : Program} {w : World} {D : Type} {enc : TypeId × Value → D}
/-- How large slices and texts that come in can be. -/
def Sized (P : Program) : List TypeId → List AV → Prop
  | t :: ts, a :: xs => (∀ e x n c ex, P.underlying t = some (.slice e) → a = .slice x n c ex → n * P.bytesOf e ≤ reachBytes) ∧ (∀ s, P.underlying t = some .string → a = .str s → s.length ≤ reachBytes) ∧ Sized P ts xs
  | _, _ => True
theorem sized_ok {ρ : Map} {us : List TypeId} {gs : List (DataW D)} : ∀ (ts : List TypeId) (vs : List Value) (ds : List (DataW D)) (ps : List MemPlace) (xa : List AV), DataW.TrodAll enc P w 0 (fun _ => true) true ts vs ds ps →
    (DataW.weightsEach P (ts ++ us) (ds ++ gs)).all (· ≤ reachBytes) = true → VRels ρ xa vs → Sized P ts xa
  | [], _, _, _, _, _, _, _ => by unfold Sized; trivial
  | t :: ts, _, _, _, [], _, _, _ => by unfold Sized; trivial
  | t :: ts, v :: vs, d :: ds, ps, a :: xa, hA, hz, hv => by
    obtain ⟨p, q, ⟨fuel, hT⟩, hA', _⟩ := hA
    obtain ⟨v', vs', e, hv, hvs⟩ := hv
    injection e with e1 e2
    subst e1; subst e2
    rw [List.cons_append, List.cons_append, DataW.weightsEach, List.all_append, Bool.and_eq_true] at hz
    refine ⟨fun e x n c ex hu ha => ?_, fun s hu ha => ?_, sized_ok ts vs ds q xa hA' hz.2 hvs⟩
    · subst ha
      cases x with
      | none =>
        obtain ⟨rfl, _⟩ := hv
        simp
      | some x =>
        obtain ⟨p1, y, c', _, rfl, _⟩ := hv
        rcases DataW.trod_slice hu hT with ⟨h1, _⟩ | ⟨a1, len, cap, elems, rest, m, _, h1, h2, _, _, _, h3, _⟩
        · cases h1
        · injection h1 with h1 _
          injection h1 with _ h1 _
          subst h1
          injection h2 with h2 _
          subst h2
          have := List.all_eq_true.1 hz.1 ((elems.length + rest.length) * P.bytesOf e) (by simp [DataW.weights, hu])
          have h4 : (elems.length + rest.length) * P.bytesOf e ≤ reachBytes := by simpa using this
          refine Nat.le_trans (Nat.mul_le_mul_right _ ?_) h4
          omega
    · subst ha
      have hv : v = .string ⟨s.toArray⟩ := hv
      subst hv
      cases fuel with
      | zero => simp [DataW.trod] at hT
      | succ fuel =>
        unfold DataW.trod at hT
        rw [hu] at hT
        simp [Value.cells] at hT
        obtain ⟨_, rfl, _⟩ := hT
        have := List.all_eq_true.1 hz.1 s.length (by simp [DataW.weights])
        simpa using this
  | t :: ts, [], _, _, _ :: _, hA, _, _ => by cases hA
  | t :: ts, _ :: _, [], _, _ :: _, hA, _, _ => by cases hA
theorem law_calls_sized {prims : Prims} (hp : PrimsOk P prims) (hm : P.follows .mixedOrders = true) (hn : plainNames P = true) {f : FuncId} {fn : Func} (hfn : P.funcs[f]? = some fn) (hnp : prims f = none) {S : Stats} (hS : ∀ p ∈ S, TabW P.globals.size w p) (hget : ∀ p ∈ S, (Heap.startS P.globals.size S).get p.1 = some p.2)
    {n : Nat} {base : Nat} {ts us : List TypeId} {args : Array Value} {ds gs : List (DataW D)} {ps : List MemPlace} (hr : ∀ t ∈ ts, readable P n t = true)
    (main : ∀ (H : Heap) (xa : List AV), P.globals.size ≤ H.next → Wf H → Lain S H → PicAll P H n ts xa → Sized P ts xa → CallsA P prims f xa H fun v _ => v = .bool true)
    (hval : ∀ (j : Nat) t v, ts[j]? = some t → args.toList[j]? = some v → Value.okWide P w .any base t v) (hA : DataW.TrodAll enc P w 0 (fun _ => true) true ts args.toList ds ps) (hz : (DataW.weightsEach P (ts ++ us) (ds ++ gs)).all (· ≤ reachBytes) = true) :
    Calls P f args w fun e w' => e = .returned (.bool true) ∧ Below w.heap.size w w' := by
  obtain ⟨ρ, H, xa, hi, _, hx, hv, hpic⟩ := values_read ts args.toList ds ps hr hval hA _ _ (startS_inv hS) (Nat.le_refl _)
  have hlain : Lain S H := fun p hp => by
    have hlt : p.1 < (Heap.startS P.globals.size S).next := (hS p hp).1
    exact ⟨(hx.2 _ hlt).trans (hget p hp), Nat.lt_of_lt_of_le hlt hx.1⟩
  have hc := main H xa hx.1 hi.wf hlain hpic (sized_ok ts args.toList ds ps xa hA hz hv)
  unfold CallsA at hc
  obtain ⟨k, v, H', hrun, rfl⟩ := hc
  refine (acall_sound hp hm hn hfn hnp hrun hi.sim hi.wf (fun b h _ => hi.free b h) hv).mono fun e w' ⟨u, he, ρ', hg, hu⟩ => ?_
  have hu : u = .bool true := hu
  subst hu
  refine ⟨he, hg.keeps.os, hg.keeps.tape, hg.keeps.output, hg.keeps.size, fun b hb => ?_⟩
  obtain ⟨o, ho⟩ : ∃ o, w.heap[b]? = some o := ⟨w.heap[b], by simp [hb]⟩
  rw [ho]
  refine hg.keeps.kept b o ho ?_
  rintro ⟨b', o', p, h1, h2, _⟩
  rw [hi.ro b' o' h1] at h2
  cases h2
end
end Go.Abs
