/- Texts on the abstract machine, joined. -/
import Derived.Test.YtneaadcnpebfeaaDoorKit04

/- A range over a function, walked. -/
namespace Go.Abs
set_option linter.unusedVariables false
set_option linter.unusedSimpArgs false

/-- What is wanted behind what comes first in a round. -/
def Firstq (P : Program) (prims : Prims) (N : Nat) (b : Code) (Q : Post) : Post
  | .normal, e, H => Wq P prims N b e H Q
  | _, _, _ => False
/-- What is wanted behind a round of a range over a function. -/
def Eachq (e0 : Nat → AV) (I : List AV → Heap → Prop) (zs : List AV) (Q : Post) : Post
  | .normal, _, H => I zs H
  | .exit id, _, H => Q (.exit id) e0 H
  | .ret, _, H => Q .ret e0 H

variable {P : Program} {prims : Prims} {N : Nat}
theorem Firstq.normal {b : Code} {Q : Post} {e : Nat → AV} {H : Heap} (h : Wq P prims N b e H Q) : Firstq P prims N b Q .normal e H := h
theorem Eachq.normal {e0 e : Nat → AV} {I : List AV → Heap → Prop} {zs : List AV} {Q : Post} {H : Heap} (h : I zs H) : Eachq e0 I zs Q .normal e H := h
theorem Eachq.exit {e0 e : Nat → AV} {I : List AV → Heap → Prop} {zs : List AV} {Q : Post} {H : Heap} {id : Nat} (h : Q (.exit id) e0 H) : Eachq e0 I zs Q (.exit id) e H := h
theorem Eachq.ret {e0 e : Nat → AV} {I : List AV → Heap → Prop} {zs : List AV} {Q : Post} {H : Heap} (h : Q .ret e0 H) : Eachq e0 I zs Q .ret e H := h

theorem seqs_run (hp : PrimsRl prims) {p : Tmp} {x y : Code} {e : Nat → AV} {Q : Post} {I : List AV → Heap → Prop}
    (hround : ∀ z zs H, I (z :: zs) H → Wq P prims N x (setE e p z) H (Firstq P prims N y (Eachq e I zs Q))) (hend : ∀ H, I [] H → Q .normal e H) :
    ∀ (zs : List AV) (H : Heap), Wf H → I zs H → ∃ n a H', seqRun (fun z H => thenRun (runCode P (acall P prims n) n x) (runCode P (acall P prims n) n y) ((tab N e).set p z) H) (tab N e) zs H = some (a, tab N e, H') ∧ Q a e H'
  | [], H, hw, hi => ⟨0, .normal, H, rfl, hend H hi⟩
  | z :: zs, H, hw, hi => by
    have h0 := hround z zs H hi
    unfold Wq at h0
    have h1 := (h0 hp hw).rl hp
    unfold Wp at h1
    obtain ⟨n1, a1, e1, H1, hr1, ⟨r1, k1⟩⟩ := h1
    cases a1 with
    | exit id => exact k1.elim
    | ret => exact k1.elim
    | normal =>
      have k1 : Wq P prims N y e1 H1 (Eachq e I zs Q) := k1
      have hw1 := r1.2 hw
      unfold Wq at k1
      have h2 := (k1 hp hw1).rl hp
      unfold Wp at h2
      obtain ⟨n2, a2, e2, H2, hr2, ⟨r2, k2⟩⟩ := h2
      have hw2 := r2.2 hw1
      have hrun : ∀ n, n1 ≤ n → n2 ≤ n → thenRun (runCode P (acall P prims n) n x) (runCode P (acall P prims n) n y) ((tab N e).set p z) H = some (a2, tab N e2, H2) := by
        intro n hn1 hn2
        unfold thenRun
        rw [tab_set, runCode_le (acall_le hn1) hn1 x _ _ _ hr1]
        exact runCode_le (acall_le hn2) hn2 y _ _ _ hr2
      cases a2 with
      | normal =>
        obtain ⟨n3, a3, H3, hr3, k3⟩ := seqs_run hp hround hend zs H2 hw2 k2
        refine ⟨max (max n1 n2) n3, a3, H3, ?_, k3⟩
        unfold seqRun
        rw [hrun _ (by omega) (by omega)]
        exact seqRun_le (fun z H r h => thenRun_le (runCode_le (acall_le (by omega)) (by omega) x) (runCode_le (acall_le (by omega)) (by omega) y) _ _ _ h) _ _ _ hr3
      | exit id =>
        refine ⟨max n1 n2, .exit id, H2, ?_, k2⟩
        unfold seqRun
        rw [hrun _ (by omega) (by omega)]
      | ret =>
        refine ⟨max n1 n2, .ret, H2, ?_, k2⟩
        unfold seqRun
        rw [hrun _ (by omega) (by omega)]

theorem Wq.rangeFunc {g : Operand} {p : Tmp} {x y : Code} {e : Nat → AV} {H : Heap} {Q : Post} {gf : FuncId} {lb : List AV} (hx : (noRange x && noRange y) = true) (hg : ev P (tab N e) g = some (.func (.func gf) [] lb)) (I : List AV → Heap → Prop)
    (hc : Cl P prims (P.funcs.size + gf) (AV.ask :: lb) H fun v H' => ∃ xs, v = .tuple xs ∧ I xs H')
    (hround : ∀ z zs H, I (z :: zs) H → Wq P prims N x (setE e p z) H (Firstq P prims N y (Eachq e I zs Q))) (hend : ∀ H, I [] H → Q .normal e H) : Wq P prims N (.rangeFunc g #[p] x y) e H Q := by
  unfold Wq
  unfold Cl at hc
  intro hp hw
  have h1 := (hc hp hw).rl hp
  unfold CallsA at h1
  obtain ⟨n1, v, H1, hr1, ⟨r1, xs, rfl, hi⟩⟩ := h1
  obtain ⟨n2, a, H2, hr2, k⟩ := seqs_run hp hround hend xs H1 (r1.2 hw) hi
  unfold Wp
  refine ⟨max n1 n2, a, e, H2, ?_, k⟩
  simp only [runCode, hx, hg, if_true]
  rw [acall_le (Nat.le_max_left n1 n2) _ _ _ _ hr1]
  exact seqRun_le (fun z H r h => thenRun_le (runCode_le (acall_le (by omega)) (by omega) x) (runCode_le (acall_le (by omega)) (by omega) y) _ _ _ h) _ _ _ hr2
end Go.Abs
