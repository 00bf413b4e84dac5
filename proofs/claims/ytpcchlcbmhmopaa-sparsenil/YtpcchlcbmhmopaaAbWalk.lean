/- A region run in the order of the text: what the abstract machine says, the model does. -/
import Derived.Test.YtpcchlcbmhmopaaAbNext
namespace Go.Abs
set_option linter.unusedVariables false
set_option linter.unusedSimpArgs false

section
variable {P : Program}

theorem VRel.bool_inv {ρ : Map} {v : AV} {b : Bool} (h : VRel ρ v (.bool b)) : v = .bool b := by
  cases v
  case bool c => cases h; rfl
  case int => cases h
  case str => cases h
  case nilFunc => cases h
  case nilIface => cases h
  case ptr o => cases o with
    | none => cases h
    | some o => obtain ⟨p, _, h⟩ := h; cases h
  case slice o n c sl => cases o with
    | none => obtain ⟨_, _, h⟩ := h; cases h
    | some o => obtain ⟨p, x, c', _, h, _⟩ := h; cases h
  case map o => cases o with
    | none => cases h
    | some o => obtain ⟨p, _, _, h⟩ := h; cases h
  case func f xs ys => obtain ⟨us, vs, h, _⟩ := h; cases h
  case iface t x => obtain ⟨y, h, _⟩ := h; cases h
  case agg cs => obtain ⟨ds, h, _⟩ := h; cases h
  case tuple cs => obtain ⟨ds, h, _⟩ := h; cases h

theorem yielded_rel {ρ : Map} {T : List AV} {a : Act} (hf : Frel ρ T a) (ops : Array Oper) (j : Nat) : yieldedA ops T j = yielded ops a.tmps j := by
  unfold yieldedA yielded
  cases ho : ops[j]? with
  | none => simp
  | some o =>
    cases hd : o.dst with
    | none => simp [hd]
    | some d =>
      simp only [hd, Option.bind_some]
      have hl := hf.length
      by_cases ht : d < T.length
      · obtain ⟨v, hv, r⟩ := hf.get d T[d] (by simp [ht])
        have hv' : a.tmps[d]? = some v := by simpa using hv
        rw [hv', List.getElem?_eq_getElem ht]
        cases hb : T[d] <;> rw [hb] at r <;> simp only
        case bool b => cases r; rfl
        all_goals
          split
          · rename_i b heq
            injection heq with heq
            subst heq
            have := r.bool_inv
            cases this
          · rfl
      · have hle : T.length ≤ d := Nat.le_of_not_lt ht
        have h1 : T[d]? = none := List.getElem?_eq_none hle
        have h2 : a.tmps[d]? = none := by rw [← Array.getElem?_toList]; exact List.getElem?_eq_none (by rw [hl]; exact hle)
        rw [h1, h2]

theorem wanted_rel {ρ : Map} {T : List AV} {a : Act} (hf : Frel ρ T a) (ops : Array Oper) (o : Oper) : Region.wanted o (yielded ops a.tmps) = wantedA ops T o := by
  unfold Region.wanted wantedA
  cases o.guard with
  | none => rfl
  | some g => obtain ⟨j, want⟩ := g; simp only [yielded_rel hf]

theorem put_rel {ρ : Map} {T : List AV} {a : Act} (hf : Frel ρ T a) (d : Option Tmp) {v : AV} {u : Value} (h : VRel ρ v u) : Frel ρ (put T d v) (a.put d u) := by
  cases d with
  | none => exact hf
  | some d => simp only [Frel, put, Act.put, Array.toList_setIfInBounds]; exact hf.set d h

theorem put_defers (a : Act) (d : Option Tmp) (v : Value) : (a.put d v).defers = a.defers := by cases d <;> rfl

theorem runOps_sound {call : CallFn} (hcall : CallOk P call) (hmono : CallMono call) {ops : Array Oper} {Q : Exit → Act → World → Prop} : ∀ (os : List Oper) (k : Nat) {T T' : List AV} {H H' : Heap} {ρ : Map} {a : Act} {w : World},
    ops.toList.drop k = os → runOps P call ops os T H = some (T', H') → Sim P.globals.size ρ H w → Frel ρ T a → Wf H → (∀ b, H.next ≤ b → b < H'.next → ρ b = none) →
    (∀ ρ' a' w', Good P.globals.size ρ H w ρ' H' w' → Frel ρ' T' a' → a'.defers = a.defers → Q .normal a' w') → wpOps P ops Q (List.range' k os.length) a w
  | [], k, T, T', H, H', ρ, a, w, hk, h, hs, hf, hwf, hfree, hQ => by
    simp only [runOps, Option.some.injEq, Prod.mk.injEq] at h
    obtain ⟨rfl, rfl⟩ := h
    simp only [List.length_nil, List.range'_zero, wpOps]
    exact hQ ρ a w (Good.refl hs) hf rfl
  | o :: os, k, T, T', H, H', ρ, a, w, hk, h, hs, hf, hwf, hfree, hQ => by
    have hko : ops[k]? = some o := by
      have : (ops.toList.drop k)[0]? = some o := by rw [hk]; rfl
      rw [List.getElem?_drop] at this
      simpa using this
    have hk' : ops.toList.drop (k + 1) = os := by
      rw [← List.drop_drop, hk]; rfl
    simp only [runOps] at h
    simp only [List.length_cons, List.range'_succ, wpOps, hko, wanted_rel hf]
    split at h
    · rename_i hw
      rw [if_pos hw]
      split at h
      · rename_i v H1 h1
        have hm1 := runOp_mono hmono h1
        have hm2 := runOps_mono hmono h
        left
        unfold runOp at h1
        split at h1
        case h_2 => cases h1
        rename_i s hsem
        have hdo := sem_sound hcall hsem hf hs.glob H w v H1 hs h1 (fun b hb hb' => hfree b hb (by omega)) (fun _ _ => hwf)
        refine wp_of_delivers hdo ?_
        rintro u w1 ⟨ρ1, hg, hv⟩
        refine runOps_sound hcall hmono os (k + 1) hk' h hg.sim (put_rel (VRels.mono hg.ext _ _ hf) o.dst hv) (hg.wf hwf) ?_ ?_
        · intro b hb hb'
          rw [hg.out b (by omega)]
          exact hfree b (by omega) hb'
        · intro ρ' a' w' hg' hf' hd'
          exact hQ ρ' a' w' (hg.trans hg') hf' (by rw [hd', put_defers])
      · cases h
    · rename_i hw
      rw [if_neg hw]
      refine runOps_sound hcall hmono os (k + 1) hk' h hs (put_rel hf o.dst (VRel.undef ρ)) hwf hfree ?_
      intro ρ' a' w' hg' hf' hd'
      exact hQ ρ' a' w' hg' hf' (by rw [hd', put_defers])

theorem text_sound {call : CallFn} (hcall : CallOk P call) (hmono : CallMono call) {ops : Array Oper} {id : Nat} {Q : Exit → Act → World → Prop} {T T' : List AV} {H H' : Heap} {ρ : Map} {a : Act} {w : World}
    (h : runOps P call ops ops.toList T H = some (T', H')) (hs : Sim P.globals.size ρ H w) (hf : Frel ρ T a) (hwf : Wf H) (hfree : ∀ b, H.next ≤ b → b < H'.next → ρ b = none)
    (hQ : ∀ ρ' a' w', Good P.globals.size ρ H w ρ' H' w' → Frel ρ' T' a' → a'.defers = a.defers → Q .normal a' w') : (Code.region id ops false).wp P Q a w := by
  refine wp_region ?_
  have := runOps_sound hcall hmono (Q := Q) ops.toList 0 (by simp) h hs hf hwf hfree hQ
  rw [List.range_eq_range']
  simpa using this

end
end Go.Abs
