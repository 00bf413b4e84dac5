/- A law that answers true: what the abstract machine says of it is what its row says. -/
import Derived.Test.YtpcchlcbmhmopaaAbReads
import Derived.Test.YtpcchlcbmhmopaaAbCalls
import Derived.Test.YtpcchlcbmhmopaaAbWp
import Derived.Below
import Derived.Carry
import Derived.Handed
import Derived.ChangeShapes
import Derived.WideShapes
import Derived.OpenShut
import Derived.ShutString
import Derived.ChangeOld
namespace Go.Abs
open Go.ChangeShapes Go.WideShapes Go.RowKit
set_option linter.unusedVariables false

/-- What is known of an argument. -/
def PicV (P : Program) (H : Heap) (n : Nat) (t : TypeId) (a : AV) : Prop :=
  match P.underlying t with
  | some (.struct _) | some (.array _ _) => ∃ cs, a = .agg cs ∧ Pic P H n t cs
  | _ => Pic P H n t [a]

def PicAll (P : Program) (H : Heap) (n : Nat) : List TypeId → List AV → Prop
  | [], as => as = []
  | t :: ts, as => ∃ a r, as = a :: r ∧ PicV P H n t a ∧ PicAll P H n ts r

theorem PicV.mono {P : Program} {H H' : Heap} (h : HExt H H') {n : Nat} {t : TypeId} {a : AV} (hp : PicV P H n t a) : PicV P H' n t a := by
  unfold PicV at hp ⊢
  split at hp
  · obtain ⟨cs, e, hp⟩ := hp; exact ⟨cs, e, Pic.mono h _ _ _ hp⟩
  · obtain ⟨cs, e, hp⟩ := hp; exact ⟨cs, e, Pic.mono h _ _ _ hp⟩
  · exact Pic.mono h _ _ _ hp

section
variable {D : Type} {enc : TypeId × Value → D} {P : Program} {w : World}

theorem value_read {n : Nat} {t : TypeId} {v : Value} {d : DataW D} {ps : List MemPlace} {base : Nat} (hr : readable P n t = true) (hok : Value.okWide P w .any base t v)
    (h : DataW.Trod enc P w 0 (fun _ => true) true t v d ps) (ρ : Map) (H : Heap) (hi : Held P.globals.size ρ H w) (hG : P.globals.size ≤ H.next) :
    ∃ ρ' H' a, Held P.globals.size ρ' H' w ∧ Ext ρ ρ' ∧ HExt H H' ∧ VRel ρ' a v ∧ PicV P H' n t a := by
  obtain ⟨fuel, hf⟩ := h
  obtain ⟨ρ', H', acs, i1, e1, x1, v1, p1⟩ := reads_ok n t _ fuel _ hr hf ρ H hi hG
  have single : (∀ cs, v ≠ .agg cs) → ∃ a, acs = [a] ∧ VRel ρ' a v := by
    intro hv
    have : v.cells.toList = [v] := by
      cases v <;> first | rfl | exact absurd rfl (hv _)
    rw [this] at v1
    cases acs with
    | nil => simp [VRels] at v1
    | cons a r =>
      obtain ⟨y, ys, e, h1, h2⟩ := v1
      injection e with e2 e3
      subst e2; subst e3
      cases r with
      | nil => exact ⟨a, rfl, h1⟩
      | cons b r => obtain ⟨_, _, e, _⟩ := h2; cases e
  have agg : (∃ cs, v = .agg cs) → VRel ρ' (.agg acs) v := by
    rintro ⟨cs, rfl⟩
    exact ⟨cs, rfl, v1⟩
  cases n with
  | zero => cases hr
  | succ n =>
    unfold readable at hr
    unfold PicV
    unfold Value.okWide at hok
    split at hr
    · rename_i hu
      simp only [hu] at hok ⊢
      obtain ⟨a, rfl, ha⟩ := single (by intro cs e; subst e; simp [Cell.okWide, Cell.ok, hu] at hok)
      exact ⟨ρ', H', a, i1, e1, x1, ha, p1⟩
    · rename_i hu
      simp only [hu] at hok ⊢
      obtain ⟨a, rfl, ha⟩ := single (by intro cs e; subst e; simp [Cell.okWide, Cell.ok, hu] at hok)
      exact ⟨ρ', H', a, i1, e1, x1, ha, p1⟩
    · rename_i hu
      simp only [hu] at hok ⊢
      obtain ⟨a, rfl, ha⟩ := single (by intro cs e; subst e; simp [Cell.okWide, Cell.ok, hu] at hok)
      exact ⟨ρ', H', a, i1, e1, x1, ha, p1⟩
    · rename_i hu
      simp only [hu] at hok ⊢
      obtain ⟨a, rfl, ha⟩ := single (by intro cs e; subst e; simp [Cell.okWide, Cell.ok, hu] at hok)
      exact ⟨ρ', H', a, i1, e1, x1, ha, p1⟩
    · rename_i hu
      simp only [hu] at hok ⊢
      obtain ⟨cs, e, _⟩ := hok
      exact ⟨ρ', H', _, i1, e1, x1, agg ⟨cs, e⟩, acs, rfl, p1⟩
    · rename_i hu
      simp only [hu] at hok ⊢
      obtain ⟨cs, e, _⟩ := hok
      exact ⟨ρ', H', _, i1, e1, x1, agg ⟨cs, e⟩, acs, rfl, p1⟩
    · cases hr

theorem values_read {n : Nat} {base : Nat} : ∀ (ts : List TypeId) (vs : List Value) (ds : List (DataW D)) (ps : List MemPlace), (∀ t ∈ ts, readable P n t = true) →
    (∀ (j : Nat) t v, ts[j]? = some t → vs[j]? = some v → Value.okWide P w .any base t v) → DataW.TrodAll enc P w 0 (fun _ => true) true ts vs ds ps →
    ∀ (ρ : Map) (H : Heap), Held P.globals.size ρ H w → P.globals.size ≤ H.next →
    ∃ ρ' H' as, Held P.globals.size ρ' H' w ∧ Ext ρ ρ' ∧ HExt H H' ∧ VRels ρ' as vs ∧ PicAll P H' n ts as
  | [], vs, ds, ps, _, _, hA, ρ, H, hi, hG => by
    obtain ⟨rfl, rfl, rfl⟩ := trodAll_nil hA
    exact ⟨ρ, H, [], hi, Ext.refl ρ, HExt.refl H, rfl, rfl⟩
  | t :: ts, vs, ds, ps, hr, hval, hA, ρ, H, hi, hG => by
    obtain ⟨v, vs', d, ds', p, q, rfl, rfl, rfl, h0, hA'⟩ := trodAll_cons hA
    obtain ⟨ρ1, H1, a, i1, e1, x1, v1, p1⟩ := value_read (hr t (by simp)) (hval 0 t v rfl rfl) h0 ρ H hi hG
    obtain ⟨ρ2, H2, as, i2, e2, x2, v2, p2⟩ := values_read ts vs' ds' q (fun t h => hr t (by simp [h])) (fun j t v h g => hval (j + 1) t v (by simpa using h) (by simpa using g)) hA' ρ1 H1 i1 (Nat.le_trans hG x1.1)
    exact ⟨ρ2, H2, a :: as, i2, e1.trans e2, x1.trans x2, ⟨v, vs', rfl, VRel.mono e2 _ _ v1, v2⟩, a, as, rfl, p1.mono x2, p2⟩

theorem start_inv (G : Nat) (w : World) : Held G (fun g => if g < G then some ⟨g, 0, 0⟩ else none) (Heap.start G) w where
  sim := { obj := fun b o h => (by cases h), apart := fun b b' o o' p p' h => (by cases h), glob := fun g hg => ⟨⟨g, 0, 0⟩, by simp [hg], rfl, rfl⟩ }
  ro := fun b o h => by cases h
  wf := fun b h => rfl
  free := fun b h => by have : G ≤ b := h; simp; omega

/-- The law's call in the model, by its call in the abstract machine. -/
theorem law_calls {prims : Prims} (hp : PrimsOk P prims) (hm : P.follows .mixedOrders = true) (hn : plainNames P = true) {f : FuncId} {fn : Func} (hfn : P.funcs[f]? = some fn) (hnp : prims f = none)
    {n : Nat} {base : Nat} {ts : List TypeId} {args : Array Value} {ds : List (DataW D)} {ps : List MemPlace} (hr : ∀ t ∈ ts, readable P n t = true)
    (main : ∀ (H : Heap) (as : List AV), P.globals.size ≤ H.next → Wf H → PicAll P H n ts as → CallsA P prims f as H fun v _ => v = .bool true)
    (hval : ∀ (j : Nat) t v, ts[j]? = some t → args.toList[j]? = some v → Value.okWide P w .any base t v) (hA : DataW.TrodAll enc P w 0 (fun _ => true) true ts args.toList ds ps) :
    Calls P f args w fun e w' => e = .returned (.bool true) ∧ Below w.heap.size w w' := by
  obtain ⟨ρ, H, as, hi, _, hx, hv, hpic⟩ := values_read ts args.toList ds ps hr hval hA _ _ (start_inv P.globals.size w) (Nat.le_refl _)
  have hc := main H as hx.1 hi.wf hpic
  unfold CallsA at hc
  obtain ⟨k, v, H', hrun, rfl⟩ := hc
  refine (acall_sound hp hm hn hfn hnp hrun hi.sim hi.wf (fun b h _ => hi.free b h) hv).mono fun e w' ⟨u, he, ρ', hg, hu⟩ => ?_
  have hu : u = .bool true := hu
  subst hu
  refine ⟨he, hg.keeps.os, hg.keeps.tape, hg.keeps.output, hg.keeps.size, fun b hb => ?_⟩
  obtain ⟨o, ho⟩ : ∃ o, w.heap[b]? = some o := ⟨w.heap[b], by simp [hb]⟩
  rw [ho]
  refine hg.keeps.kept b o ho ?_
  rintro ⟨b', o', p, h1, h2, _⟩
  rw [hi.ro b' o' h1] at h2
  cases h2

theorem trodAll_behind (hl : laidOutB P = true) {w' : World} (hb : Below w.heap.size w w') : ∀ (ts : List TypeId) (vs : List Value) (ds : List (DataW D)) (ps : List MemPlace),
    (∀ t ∈ ts, P.readableRec t = true ∧ t < P.types.size) → DataW.TrodAll enc P w 0 (fun _ => true) true ts vs ds ps →
    ∃ qs, DataW.TrodAll enc P w' 0 (fun b => decide (b < w.heap.size)) true ts vs ds qs
  | [], vs, ds, ps, _, hA => by
    obtain ⟨rfl, rfl, rfl⟩ := trodAll_nil hA
    exact ⟨[], trodAll_mk0⟩
  | t :: ts, vs, ds, ps, hr, hA => by
    obtain ⟨v, vs', d, ds', p, q, rfl, rfl, rfl, h0, hA'⟩ := trodAll_cons hA
    obtain ⟨qs, hq⟩ := trodAll_behind hl hb ts vs' ds' q (fun t h => hr t (by simp [h])) hA'
    have lt : ∀ x ∈ p, x.block < w.heap.size := by obtain ⟨m, hm⟩ := h0; exact DataW.trod_lt m _ _ _ hm
    exact ⟨_, trodAll_cons_mk (Below.trod hl (hr t (by simp)).1 (hr t (by simp)).2 h0 hb lt) hq⟩

theorem trodAll_len : ∀ (ts : List TypeId) (vs : List Value) (ds : List (DataW D)) (ps : List MemPlace), DataW.TrodAll enc P w 0 (fun _ => true) true ts vs ds ps → ds.length = ts.length
  | [], vs, ds, ps, hA => by
    obtain ⟨rfl, rfl, rfl⟩ := trodAll_nil hA
    rfl
  | t :: ts, vs, ds, ps, hA => by
    obtain ⟨v, vs', d, ds', p, q, rfl, rfl, rfl, h0, hA'⟩ := trodAll_cons hA
    simp [trodAll_len ts vs' ds' q hA']

/-- What a law's row asks for: it answers true, and its arguments read as they did. -/
theorem law_post {s : ChangeSpec} {fn : Func} {f : FuncId} (hl : laidOutB P = true) (hs : s.vars = []) (hfn : ∀ (ds : List (DataW D)), ds.length = fn.params.toList.length → s.fn D ds = { results := [.lit (.bool true)], args := ds, vars := [] })
    {tb : TypeId} (hres : fn.resultTypes = #[tb]) (hb : P.underlying tb = some .bool) (hts : ∀ t ∈ fn.params.toList, P.readableRec t = true ∧ t < P.types.size)
    {args : Array Value} {ds gs : List (DataW D)} {before : List MemPlace}
    (hW : DataW.Whole enc P fn.params.toList s.vars false w args.toList ds gs before)
    (hcall : ∀ p, DataW.TrodAll enc P w 0 (fun _ => true) true fn.params.toList args.toList ds p → Calls P f args w fun e w' => e = .returned (.bool true) ∧ Below w.heap.size w w') :
    Calls P f args w fun e w' => ∃ v, e = .returned v ∧ s.post enc P fn false true false false w args v w' := by
  have hW' := hW
  obtain ⟨p, q, hA, hV, rfl, hfz, hnd⟩ := hW
  rw [hs] at hV
  obtain ⟨rfl, rfl⟩ := trodVars_none hV
  have hlen : ds.length = fn.params.toList.length := trodAll_len _ _ _ _ hA
  refine (hcall p hA).mono fun e w' ⟨he, bel⟩ => ?_
  obtain ⟨qs, hq⟩ := trodAll_behind hl bel _ _ _ _ hts hA
  have e1 := hfn ds hlen
  refine ⟨.bool true, he, ds, [], _, [], qs, [], hW', ?_, ?_, ?_, bel.frame _, fun h => (by cases h)⟩
  · rw [List.append_nil, e1, hres]
    exact trodAll_mk1 (shut_bool hb _)
  · rw [List.append_nil, e1]
    exact hq
  · rw [hs]
    show DataW.TrodVars enc P w' _ [] (s.fn D (ds ++ [])).vars []
    rw [List.append_nil, e1]
    rfl

end
end Go.Abs
