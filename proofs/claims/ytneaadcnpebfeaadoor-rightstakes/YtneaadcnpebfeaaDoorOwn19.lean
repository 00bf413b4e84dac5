/- Texts on this program, joined. -/
import Derived.Test.YtneaadcnpebfeaaDoorOwn17
import Derived.Test.YtneaadcnpebfeaaDoorKit18
import Derived.Test.YtneaadcnpebfeaaDoorKit04
import Derived.Test.YtneaadcnpebfeaaDoorOwn13

/- Chapter 01: RightsPuts and RightsTakes, walked. -/
namespace Go.Abs
open Go.Proofs
set_option maxRecDepth 100000
set_option linter.unusedVariables false
set_option linter.unusedSimpArgs false

/-! ## words -/
theorem b64 : IntKind.u64.bits = 64 := rfl
theorem wrap64 {n : Nat} (h : n < 18446744073709551616) : IntKind.u64.wrap (n : Int) = n := by simp [IntKind.wrap, IntKind.signed, IntKind.bits]; omega
theorem mod64 {n : Nat} (h : n < 18446744073709551616) : ((n : Int) % 2 ^ IntKind.u64.bits).toNat = n := by rw [b64]; omega
theorem modn64 {n : Nat} (h : n < 18446744073709551616) : n % 2 ^ IntKind.u64.bits = n := by rw [b64]; omega
def w0 (a : BitVec 32) : Nat := 144115188075855872 + a.toNat % 1048576
def w1 (a : BitVec 32) : Nat := 288230376151711744 + a.toNat / 1048576
theorem low20 (n : Nat) : n &&& 1048575 = n % 1048576 := Nat.and_two_pow_sub_one_eq_mod n 20
theorem or57 {n : Nat} (h : n < 144115188075855872) : n ||| 144115188075855872 = 144115188075855872 + n := by
  have := Nat.two_pow_add_eq_or_of_lt (i := 57) (b := n) (by omega) 1
  rw [Nat.mul_one, show (2 ^ 57 : Nat) = 144115188075855872 from rfl] at this
  rw [Nat.or_comm]
  omega
theorem or58 {n : Nat} (h : n < 288230376151711744) : n ||| 288230376151711744 = 288230376151711744 + n := by
  have := Nat.two_pow_add_eq_or_of_lt (i := 58) (b := n) (by omega) 1
  rw [Nat.mul_one, show (2 ^ 58 : Nat) = 288230376151711744 from rfl] at this
  rw [Nat.or_comm]
  omega
theorem put0 (a : BitVec 32) : IntKind.u64.wrap ↑((IntKind.u64.wrap ↑((IntKind.u64.wrap ↑a.toNat % 2 ^ IntKind.u64.bits).toNat &&& 1048575 % 2 ^ IntKind.u64.bits) % 2 ^ IntKind.u64.bits).toNat ||| 144115188075855872 % 2 ^ IntKind.u64.bits) = (w0 a : Nat) := by
  have hlt := bv_lt a
  rw [wrap64 (n := a.toNat) (by omega), mod64 (n := a.toNat) (by omega), modn64 (n := 1048575) (by omega), low20]
  have h1 : a.toNat % 1048576 < 1048576 := by omega
  rw [wrap64 (n := a.toNat % 1048576) (by omega), mod64 (n := a.toNat % 1048576) (by omega), modn64 (n := 144115188075855872) (by omega), or57 (by omega)]
  exact wrap64 (by omega)
theorem put1 (a : BitVec 32) : IntKind.u64.wrap ↑(((IntKind.u64.wrap ↑a.toNat).fdiv (2 ^ min 20 IntKind.u64.bits) % 2 ^ IntKind.u64.bits).toNat ||| 288230376151711744 % 2 ^ IntKind.u64.bits) = (w1 a : Nat) := by
  have hlt := bv_lt a
  have h1 : (a.toNat : Int).fdiv (2 ^ min 20 IntKind.u64.bits) = ((a.toNat / 1048576 : Nat) : Int) := by
    rw [show min 20 IntKind.u64.bits = 20 from rfl, Int.ofNat_fdiv]; rfl
  rw [wrap64 (n := a.toNat) (by omega), h1]
  have h2 : a.toNat / 1048576 < 4096 := by omega
  rw [mod64 (n := a.toNat / 1048576) (by omega), modn64 (n := 288230376151711744) (by omega), or58 (by omega)]
  exact wrap64 (by omega)
theorem rput0 (a : BitVec 32) : IntKind.u64.wrap (144115188075855872 + (IntKind.u64.wrap ↑a.toNat).tmod 1048576) = (w0 a : Nat) := by
  have hlt := bv_lt a
  have e : (144115188075855872 + ((a.toNat : Nat) : Int).tmod 1048576) = (w0 a : Nat) := by
    rw [Int.tmod_eq_emod_of_nonneg (by omega)]; unfold w0; omega
  rw [wrap64 (n := a.toNat) (by omega), e]
  exact wrap64 (by unfold w0; omega)
theorem rput1 (a : BitVec 32) : IntKind.u64.wrap (288230376151711744 + IntKind.u64.wrap ((IntKind.u64.wrap ↑a.toNat).tdiv 1048576)) = (w1 a : Nat) := by
  have hlt := bv_lt a
  have e1 : (((a.toNat : Nat) : Int).tdiv 1048576) = ((a.toNat / 1048576 : Nat) : Int) := by
    rw [Int.tdiv_eq_ediv_of_nonneg (by omega)]; omega
  rw [wrap64 (n := a.toNat) (by omega), e1, wrap64 (n := a.toNat / 1048576) (by omega)]
  have e : (288230376151711744 + ((a.toNat / 1048576 : Nat) : Int)) = (w1 a : Nat) := by unfold w1; omega
  rw [e]
  exact wrap64 (by unfold w1; omega)
/-- The set that two words are taken for. -/
def tA (x y : Nat) : BitVec 32 := BitVec.ofNat 32 (x % 1048576 ||| y * 1048576 % 18446744073709551616)
theorem take0 {x y : Nat} (hx : x < 18446744073709551616) (hy : y < 18446744073709551616) : IntKind.u32.wrap (IntKind.u64.wrap ↑((IntKind.u64.wrap ↑(x % 2 ^ IntKind.u64.bits &&& 1048575 % 2 ^ IntKind.u64.bits) % 2 ^ IntKind.u64.bits).toNat ||| (IntKind.u64.wrap (↑y * 2 ^ min 20 IntKind.u64.bits) % 2 ^ IntKind.u64.bits).toNat)) = ((tA x y).toNat : Nat) := by
  have h1 : x % 1048576 < 1048576 := by omega
  have h2 : IntKind.u64.wrap ((y : Int) * 2 ^ min 20 IntKind.u64.bits) = ((y * 1048576 % 18446744073709551616 : Nat) : Int) := by
    rw [show min 20 IntKind.u64.bits = 20 from rfl]
    simp [IntKind.wrap, IntKind.signed, IntKind.bits]
  have h3 : y * 1048576 % 18446744073709551616 < 18446744073709551616 := Nat.mod_lt _ (by omega)
  rw [modn64 hx, modn64 (n := 1048575) (by omega), low20, wrap64 (n := x % 1048576) (by omega), h2, mod64 (n := x % 1048576) (by omega), mod64 h3]
  have h4 : (x % 1048576 ||| y * 1048576 % 18446744073709551616) < 2 ^ 64 := Nat.or_lt_two_pow (by omega) (by omega)
  rw [wrap64 h4]
  unfold tA
  rw [BitVec.toNat_ofNat]
  simp [IntKind.wrap, IntKind.signed, IntKind.bits]
/-- What two words are that stand for a set. -/
def inR (x y : Nat) : Prop := 144115188075855872 ≤ x ∧ x < 144115188076904448 ∧ 288230376151711744 ≤ y ∧ y < 288230376151715840
theorem tA_in {x y : Nat} (h : inR x y) : (tA x y).toNat = (x - 144115188075855872) + (y - 288230376151711744) * 1048576 ∧ w0 (tA x y) = x ∧ w1 (tA x y) = y := by
  obtain ⟨h1, h2, h3, h4⟩ := h
  obtain ⟨r, rfl⟩ : ∃ r, x = 144115188075855872 + r := ⟨x - 144115188075855872, by omega⟩
  obtain ⟨q, rfl⟩ : ∃ q, y = 288230376151711744 + q := ⟨y - 288230376151711744, by omega⟩
  have hr : r < 1048576 := by omega
  have hq : q < 4096 := by omega
  have e : (tA (144115188075855872 + r) (288230376151711744 + q)).toNat = r + q * 1048576 := by
    unfold tA
    rw [BitVec.toNat_ofNat, show (144115188075855872 + r) % 1048576 = r by omega, show (288230376151711744 + q) * 1048576 % 18446744073709551616 = q * 1048576 by omega]
    have := Nat.two_pow_add_eq_or_of_lt (i := 20) (b := r) (by omega) q
    rw [Nat.or_comm, show q * 1048576 = 2 ^ 20 * q by omega, ← this]
    omega
  unfold w0 w1
  rw [e]
  omega
theorem w_in (a : BitVec 32) : inR (w0 a) (w1 a) := by
  have hlt := bv_lt a
  unfold inR w0 w1
  omega
theorem tA_out {x y : Nat} (h : ¬ inR x y) : ¬ (w0 (tA x y) = x ∧ w1 (tA x y) = y) := fun ⟨e1, e2⟩ => by
  have := w_in (tA x y)
  rw [e1, e2] at this
  exact h this
theorem rtake {x y : Nat} (h : inR x y) : IntKind.u32.wrap (IntKind.u64.wrap (IntKind.u64.wrap (↑x - 144115188075855872) + IntKind.u64.wrap (IntKind.u64.wrap (↑y - 288230376151711744) * 1048576))) = ((tA x y).toNat : Nat) := by
  obtain ⟨e, _⟩ := tA_in h
  obtain ⟨h1, h2, h3, h4⟩ := h
  rw [e]
  simp [IntKind.wrap, IntKind.signed, IntKind.bits]
  omega
theorem tA_w (a : BitVec 32) : tA (w0 a) (w1 a) = a := by
  have hlt := bv_lt a
  have := (tA_in (w_in a)).1
  apply BitVec.eq_of_toNat_eq
  rw [this]
  unfold w0 w1
  omega
def takeT (l : List Nat) : BitVec 32 × Int := match l with
  | [x, y] => if w0 (tA x y) = x ∧ w1 (tA x y) = y then (tA x y, 0) else (0#32, 22)
  | _ => (0#32, 22)
/-! ## two words compared -/
def eqSemW (P : Program) (t : TypeId) (xs ys : List AV) : Option Bool :=
  match P.underlying t with
  | some (.array _ _) => if P.eqGuardType P.depth t then none else eqA P 8 t (.agg xs) (.agg ys)
  | _ => none
theorem eqSemW_eq {P : Program} {t : TypeId} {xs ys : List AV} {neg r : Bool} (h : eqSemW P t xs ys = some r) : eqSem P t (.agg xs) (.agg ys) neg = some (.pure (.bool (r != neg))) := by
  unfold eqSemW at h
  unfold eqSem
  split at h
  · rename_i hu
    rw [hu]
    split at h
    · cases h
    · rename_i hg
      simp only [hg, h, Bool.false_eq_true, if_false]
  · cases h
theorem eqW_chain (a b c d : Int) : eqSemW Tryd.prog 47 [.int .u64 a, .int .u64 b] [.int .u64 c, .int .u64 d] = match (a == c) with | true => (match (b == d) with | true => some true | false => some false) | false => some false := by kernel_rfl
theorem eqW (a b c d : Nat) (neg : Bool) : eqSem Tryd.prog 47 (.agg [.int .u64 a, .int .u64 b]) (.agg [.int .u64 c, .int .u64 d]) neg = some (.pure (.bool (decide (a = c ∧ b = d) != neg))) := by
  have h := eqW_chain a b c d
  have e : (match ((a : Int) == c) with | true => (match ((b : Int) == d) with | true => some true | false => some false) | false => some false) = some (decide (a = c ∧ b = d)) := by
    by_cases h1 : a = c
    · subst h1
      by_cases h2 : b = d
      · subst h2; simp
      · have : ((b : Int) == d) = false := by simp; omega
        simp [this, h2]
    · have : ((a : Int) == c) = false := by simp; omega
      simp [this, h1]
  rw [e] at h
  rw [eqSemW_eq h]
theorem eqW_eq (a b c d : Nat) (H : Heap) : binR Tryd.prog .eql 47 (some (.agg [.int .u64 a, .int .u64 b])) (some (.agg [.int .u64 c, .int .u64 d])) H = some (.bool (decide (a = c ∧ b = d)), H) := by
  rw [binR_agg, eqW]
  simp [Sm.run]
theorem eqW_ne (a b c d : Nat) (H : Heap) : binR Tryd.prog .neq 47 (some (.agg [.int .u64 a, .int .u64 b])) (some (.agg [.int .u64 c, .int .u64 d])) H = some (.bool !(decide (a = c ∧ b = d)), H) := by
  rw [binR_aggn, eqW]
  simp [Sm.run]
/-! ## the functions -/
theorem put_ok (a : BitVec 32) (H : Heap) : Cl Tryd.prog pr01 39 [.int .u32 a.toNat] H fun r H' => Keep H H' ∧ r = .agg [.int .u64 (w0 a), .int .u64 (w1 a)] := by
  refine Cl.enter Tryd.func39 rfl rfl Tryd.ntmps39 (by simp) ?_
  refine walk none0 ?_
  exact ⟨(Upd.rfl.push _).set _ (by simp) (by omega), by rw [put0, put1]⟩
theorem Put_ok (a : BitVec 32) (H : Heap) : Cl Tryd.prog pr01 30 [.int .u32 a.toNat] H fun r H' => Keep H H' ∧ r = .agg [.int .u64 (w0 a), .int .u64 (w1 a)] := by
  refine Cl.enter Tryd.func30 rfl rfl Tryd.ntmps30 (by simp) ?_
  refine walk none0 ?_
  have k0 : Keep H (H.push (.cells [.int .u64 0, .int .u64 0] 47 true false)) := Upd.rfl.push _
  have hn0 : H.next < (H.push (.cells [.int .u64 0, .int .u64 0] 47 true false)).next := by simp
  have hg0 : (H.push (.cells [.int .u64 0, .int .u64 0] 47 true false)).get H.next = some (.cells [.int .u64 0, .int .u64 0] 47 true false) := by simp
  generalize H.push (.cells [.int .u64 0, .int .u64 0] 47 true false) = H0 at *
  refine (put_ok a H0).mono fun v H1 _ ⟨kA, e1⟩ => ?_
  subst e1
  have hg1 := (kA.get hn0).trans hg0
  have hn1 := kA.next
  refine walk hg1 ?_
  exact ⟨(k0.then kA).set _ (by omega) (by omega), rfl⟩
theorem refPut_ok (a : BitVec 32) (H : Heap) : Cl Tryd.prog pr01 31 [.int .u32 a.toNat] H fun r H' => Keep H H' ∧ r = .agg [.int .u64 (w0 a), .int .u64 (w1 a)] := by
  refine Cl.enter Tryd.func31 rfl rfl Tryd.ntmps31 (by simp) ?_
  refine walk none0 ?_
  exact ⟨(Upd.rfl.push _).set _ (by simp) (by omega), by rw [rput0, rput1]⟩
def s2aR (P : Program) (t : TypeId) (v : Option AV) (H : Heap) : Option (AV × Heap) :=
  match (match P.underlying t, v with
    | some (.array n _), some (.slice (some a) len _ _) => if len < n then none else if n = 0 then none else some (Sm.pure (.ptr (some a)))
    | _, _ => none) with
  | some s => s.run H
  | none => none
theorem opR_s2a (N : Nat) (e : Nat → AV) (H : Heap) (x : Operand) : opR Tryd.prog N e (.sliceToArrayPointer 47 x) H = s2aR Tryd.prog 47 (ev Tryd.prog (tab N e) x) H := by
  simp only [opR_eq, sem]
  rfl
theorem s2aR_47 (a : Nat × Nat) (c : Nat) (ex : Option Nat) (H : Heap) : s2aR Tryd.prog 47 (some (.slice (some a) 2 c ex)) H = some (.ptr (some a), H) := by
  have : Tryd.prog.underlying 47 = some (.array 2 46) := Tryd.underlying47
  simp only [s2aR, this]
  rfl
theorem s2a_pure {P : Program} {call : CallFn} {T : List AV} {t : TypeId} {x : Operand} {bs : List Nat} {k : List AObj → Option AV} (h : sem P call T (.sliceToArrayPointer t x) = some (.read bs k)) : False := by
  simp only [sem] at h
  split at h
  · split at h
    · cases h
    · split at h <;> cases h
  · cases h
theorem Dq.s2a {prims : Prims} {N : Nat} {ops : Array Oper} {n0 i m : Nat} {is : List (Nat × Nat)} {e : Nat → AV} {H : Heap} {snaps : List Heap} {K : (Nat → AV) → Heap → Prop} {d : Tmp} {x : Operand} {t : TypeId} {pos : String} {after : Array Edge} {b o cap : Nat} {ex : Option Nat}
    (ho : ops[i]? = some ⟨some d, .sliceToArrayPointer 47 x, t, pos, after, none⟩) (hg : Met ops e N none) (hx : ev Tryd.prog (tab N e) x = some (.slice (some (b, o)) 2 cap ex))
    (h : Dq Tryd.prog prims N ops n0 is (setE e d (.ptr (some (b, o)))) H snaps K) : Dq Tryd.prog prims N ops n0 ((i, m) :: is) e H snaps K :=
  Dq.light ho rfl (Met.w (o := ⟨some d, .sliceToArrayPointer 47 x, t, pos, after, none⟩) hg) (by rw [opR_s2a, hx]; exact s2aR_47 _ _ _ _) (.inr fun bs k hs => (s2a_pure hs).elim) h
theorem take_ok (x y : Nat) (hx : x < 18446744073709551616) (hy : y < 18446744073709551616) {H : Heap} {v : AV} (h : Sl H 1 v 2 [.int .u64 x, .int .u64 y]) : Cl Tryd.prog pr01 28 [v] H fun r H' => Keep H H' ∧ r = .tuple [.int .u32 (takeT [x, y]).1.toNat, .int .i64 (takeT [x, y]).2] := by
  obtain ⟨a, cap, ex, rfl, hc, hex⟩ := h.form
  obtain ⟨b, o, c, t, w, mk, rfl, h1, h2, h3, h4⟩ := h.at (by omega)
  have e0 : c[o]? = some (.int .u64 x) := by have := sub_get h4 (i := 0) (by omega); simpa using this
  have e1 : c[o + 1]? = some (.int .u64 y) := by have := sub_get h4 (i := 1) (by omega); simpa using this
  have ht := take0 hx hy
  refine Cl.enter Tryd.func28 rfl rfl Tryd.ntmps28 (by simp) ?_
  refine walk none0 ?_
  refine Wq.regionD [0, 1, 2, 3, 4, 5, 6, 7, 8, 9, 10] (by kernel_rfl) ?_
  refine walk (both h2 (both e0 (both e1 ht))) ?_
  refine Wq.regionM [(0, 0), (1, 0), (2, 0), (3, 2), (4, 2), (5, 0)] (by kernel_rfl) ?_
  refine mwalk (both h2 (both e0 e1)) ?_
  refine (put_ok (tA x y) H).mono fun v H1 _ ⟨kA, e2⟩ => ?_
  subst e2
  have g2 := (kA.get h1).trans h2
  have h4' : (c.drop o).take 2 = [.int .u64 x, .int .u64 y] := h4
  have hne := eqW_ne (w0 (tA x y)) (w1 (tA x y)) x y H1
  refine mwalk (both h2 (both e0 (both e1 (both g2 (both h4' hne))))) ?_
  refine Dq.s2a (b := b) (o := o) (cap := cap) (ex := ex) rfl met_none (by simp) ?_
  refine mwalk (both h2 (both e0 (both e1 (both g2 (both h4' hne))))) ?_
  refine Thenq.normal ?_
  by_cases hq : w0 (tA x y) = x ∧ w1 (tA x y) = y
  · have et : takeT [x, y] = (tA x y, 0) := if_pos hq
    rw [et]
    have b0 := decide_eq_true hq.1
    have b1 := decide_eq_true hq.2
    refine walk (both b0 b1) ?_
    exact ⟨kA, rfl⟩
  · have et : takeT [x, y] = (0#32, 22) := if_neg hq
    rw [et]
    have b0 : (!decide (w0 (tA x y) = x) || !decide (w1 (tA x y) = y)) = true := by
      by_cases h1 : w0 (tA x y) = x
      · have h2 : ¬ w1 (tA x y) = y := fun h2 => hq ⟨h1, h2⟩
        simp [h2]
      · simp [h1]
    refine walk b0 ?_
    exact ⟨kA, rfl⟩
theorem refTake_ok (x y : Nat) (hx : x < 18446744073709551616) (hy : y < 18446744073709551616) {H : Heap} {v : AV} (h : Sl H 1 v 2 [.int .u64 x, .int .u64 y]) : Cl Tryd.prog pr01 29 [v] H fun r H' => Keep H H' ∧ r = .tuple [.int .u32 (takeT [x, y]).1.toNat, .int .i64 (takeT [x, y]).2] := by
  obtain ⟨a, cap, ex, rfl, hc, hex⟩ := h.form
  obtain ⟨b, o, c, t, w, mk, rfl, h1, h2, h3, h4⟩ := h.at (by omega)
  have e0 : c[o]? = some (.int .u64 x) := by have := sub_get h4 (i := 0) (by omega); simpa using this
  have e1 : c[o + 1]? = some (.int .u64 y) := by have := sub_get h4 (i := 1) (by omega); simpa using this
  by_cases hin : inR x y
  · obtain ⟨i1, i2, i3, i4⟩ := id hin
    refine Cl.enter Tryd.func29 rfl rfl Tryd.ntmps29 (by simp) ?_
    refine walk (both h2 (both e0 (both e1 (both i1 (both i2 (both i3 i4)))))) ?_
    refine Wq.regionD [0, 1, 2, 3, 4, 5, 6, 7, 8, 9, 10, 11, 12] (by kernel_rfl) ?_
    refine walk (both h2 (both e0 e1)) ?_
    have et : takeT [x, y] = (tA x y, 0) := if_pos (tA_in hin).2
    exact ⟨Upd.rfl, by rw [rtake hin, et]⟩
  · have et : takeT [x, y] = (0#32, 22) := if_neg (tA_out hin)
    rw [et]
    refine Cl.enter Tryd.func29 rfl rfl Tryd.ntmps29 (by simp) ?_
    by_cases i1 : x < 144115188075855872
    · refine walk (both h2 (both e0 (both e1 i1))) ?_
      exact ⟨Upd.rfl, rfl⟩
    · by_cases i2 : 144115188076904448 ≤ x
      · refine walk (both h2 (both e0 (both e1 (both i1 i2)))) ?_
        exact ⟨Upd.rfl, rfl⟩
      · by_cases i3 : y < 288230376151711744
        · refine walk (both h2 (both e0 (both e1 (both i1 (both i2 i3))))) ?_
          exact ⟨Upd.rfl, rfl⟩
        · have i4 : 288230376151715840 ≤ y := by
            refine Nat.le_of_not_lt fun i4 => hin ⟨by omega, by omega, by omega, i4⟩
          refine walk (both h2 (both e0 (both e1 (both i1 (both i2 (both i3 i4)))))) ?_
          exact ⟨Upd.rfl, rfl⟩
theorem rightsPuts_main (a : BitVec 32) {H : Heap} (hL : Lain S01 H) : Cl Tryd.prog pr01 10 [.int .u32 a.toNat] H fun v _ => v = .bool true := by
  have hx : w0 a < 18446744073709551616 := by have := (w_in a).2.1; omega
  have hy : w1 a < 18446744073709551616 := by have := (w_in a).2.2.2; omega
  have htk : takeT [w0 a, w1 a] = (a, 0) := by
    have := tA_w a
    unfold takeT
    simp only [this]
    exact if_pos ⟨trivial, trivial⟩
  refine Cl.enter Tryd.func10 rfl rfl Tryd.ntmps10 (by simp) ?_
  refine walk none0 ?_
  have hrp := refPut_ok a
  refine (Put_ok a H).mono fun v H1 _ ⟨kA, e1⟩ => ?_
  subst e1
  refine walk none0 ?_
  generalize w0 a = x at *
  generalize w1 a = y at *
  have k2 : Keep H1 (((H1.push (AObj.cells [AV.int IntKind.u64 0, AV.int IntKind.u64 0] 47 true false)).set H1.next (AObj.cells [AV.int IntKind.u64 ↑x, AV.int IntKind.u64 ↑y] 47 true false)).push (AObj.cells [AV.int IntKind.u64 ↑x, AV.int IntKind.u64 ↑y] 46 true false)) := ((Upd.rfl.push _).set _ (by simp) (by omega)).push _
  have gw : (((H1.push (AObj.cells [AV.int IntKind.u64 0, AV.int IntKind.u64 0] 47 true false)).set H1.next (AObj.cells [AV.int IntKind.u64 ↑x, AV.int IntKind.u64 ↑y] 47 true false)).push (AObj.cells [AV.int IntKind.u64 ↑x, AV.int IntKind.u64 ↑y] 46 true false)).get H1.next = some (.cells [.int .u64 x, .int .u64 y] 47 true false) := by simp
  have gl : (((H1.push (AObj.cells [AV.int IntKind.u64 0, AV.int IntKind.u64 0] 47 true false)).set H1.next (AObj.cells [AV.int IntKind.u64 ↑x, AV.int IntKind.u64 ↑y] 47 true false)).push (AObj.cells [AV.int IntKind.u64 ↑x, AV.int IntKind.u64 ↑y] 46 true false)).get (H1.next + 1) = some (.cells [.int .u64 x, .int .u64 y] 46 true false) := by simp
  have hn : (((H1.push (AObj.cells [AV.int IntKind.u64 0, AV.int IntKind.u64 0] 47 true false)).set H1.next (AObj.cells [AV.int IntKind.u64 ↑x, AV.int IntKind.u64 ↑y] 47 true false)).push (AObj.cells [AV.int IntKind.u64 ↑x, AV.int IntKind.u64 ↑y] 46 true false)).next = H1.next + 1 + 1 := by simp
  generalize (((H1.push (AObj.cells [AV.int IntKind.u64 0, AV.int IntKind.u64 0] 47 true false)).set H1.next (AObj.cells [AV.int IntKind.u64 ↑x, AV.int IntKind.u64 ↑y] 47 true false)).push (AObj.cells [AV.int IntKind.u64 ↑x, AV.int IntKind.u64 ↑y] 46 true false)) = H2 at *
  have hsl : Sl H2 1 (.slice (some (H1.next + 1, 0)) 2 2 none) 2 [.int .u64 x, .int .u64 y] := by
    unfold Sl
    exact ⟨rfl, .inr ⟨_, _, _, _, rfl, Nat.le_refl _, .inl rfl, fun _ => ⟨by omega, _, _, _, _, gl, by simp, rfl⟩⟩⟩
  refine (take_ok x y hx hy hsl).mono fun v H3 _ ⟨kB, e1⟩ => ?_
  subst e1
  rw [htk]
  have gw3 := (kB.get (by omega)).trans gw
  have hn3 := kB.next
  refine walk none0 ?_
  refine Wq.regionM [(1, 0), (2, 0), (0, 2), (3, 0), (4, 0), (5, 0), (6, 0), (7, 0), (8, 0), (9, 0), (10, 0), (11, 0), (12, 0), (13, 0), (14, 0), (15, 0), (16, 0)] (by kernel_rfl) ?_
  refine mwalk gw3 ?_
  refine (hrp H3).mono fun v H4 _ ⟨kC, e1⟩ => ?_
  subst e1
  have gw4 := (kC.get (show H1.next < H3.next by omega)).trans gw3
  have hee := eqW_eq x y x y H4
  have hL4 := lain_kept (lain_kept (lain_kept (lain_kept hL kA) k2) kB) kC
  refine mwalk (both gw3 (both gw4 hee)) ?_
  refine (lives_ok hL4).mono fun v H1 _ ⟨e1, e2⟩ => ?_
  subst e1; subst e2
  refine mwalk none0 ?_
  refine Thenq.normal ?_
  refine walk none0 ?_
  rfl
/-! ## any words -/
def wordsC (l : List Nat) : List AV := l.map fun (z : Nat) => AV.int .u64 (z : Int)
theorem take_no {l : List Nat} (hl : l.length ≠ 2) : takeT l = (0#32, 22) := by
  match l, hl with
  | [], _ => rfl
  | [_], _ => rfl
  | [_, _], h => exact absurd rfl h
  | _ :: _ :: _ :: _, _ => rfl
theorem takeL_ok {l : List Nat} (hl : ∀ z ∈ l, z < 18446744073709551616) (hn : l.length ≤ 17592186044416) {H : Heap} {v : AV} (h : Sl H 1 v l.length (wordsC l)) : Cl Tryd.prog pr01 28 [v] H fun r H' => Keep H H' ∧ r = .tuple [.int .u32 (takeT l).1.toNat, .int .i64 (takeT l).2] := by
  by_cases h2 : l.length = 2
  · match l, h2 with
    | [x, y], _ => exact take_ok x y (hl x (by simp)) (hl y (by simp)) h
  · rw [take_no h2]
    obtain ⟨a, cap, ex, rfl, hc, hex⟩ := h.form
    have h2' : ((l.length : Int) = 2) = False := by simp; omega
    refine Cl.enter Tryd.func28 rfl rfl Tryd.ntmps28 (by simp) ?_
    refine walk (both h2 h2') ?_
    exact ⟨Upd.rfl, rfl⟩
theorem refTakeL_ok {l : List Nat} (hl : ∀ z ∈ l, z < 18446744073709551616) (hn : l.length ≤ 17592186044416) {H : Heap} {v : AV} (h : Sl H 1 v l.length (wordsC l)) : Cl Tryd.prog pr01 29 [v] H fun r H' => Keep H H' ∧ r = .tuple [.int .u32 (takeT l).1.toNat, .int .i64 (takeT l).2] := by
  by_cases h2 : l.length = 2
  · match l, h2 with
    | [x, y], _ => exact refTake_ok x y (hl x (by simp)) (hl y (by simp)) h
  · rw [take_no h2]
    obtain ⟨a, cap, ex, rfl, hc, hex⟩ := h.form
    have h2' : ((l.length : Int) = 2) = False := by simp; omega
    refine Cl.enter Tryd.func29 rfl rfl Tryd.ntmps29 (by simp) ?_
    refine walk (both h2 h2') ?_
    exact ⟨Upd.rfl, rfl⟩
theorem app_words {H : Heap} {b m : Nat} {x : AV} {new : List AV} (hx : srcLen x = some m ∧ srcCells H 1 m x = some new) (hl : new.length = m) (hm : m ≤ 17592186044416) :
    ∃ v' H', builtinR Tryd.prog .append #[43, 43] (some [.slice (some (b, 0)) 0 0 none, x]) H = some (v', H') ∧ Keep H H' ∧ Sl H' 1 v' m new := by
  have hu : Tryd.prog.underlying 43 = some (.slice 46) := Tryd.underlying43
  have he := append_eq (P := Tryd.prog) (ts := #[43, 43]) (t := 43) (elem := 46) (s := 1) (bytes := 8) (z := .int .u64 0) (t1 := 43) (base := some (b, 0)) (n := 0) (c := 0) (ex := none) (H := H) rfl hu (by kernel_rfl) (by kernel_rfl) (by kernel_rfl) rfl (by kernel_rfl) rfl hu hx.1 hx.2 (by omega)
  rw [he]
  unfold appendA
  by_cases h0 : m = 0
  · subst h0
    obtain rfl : new = [] := List.eq_nil_of_length_eq_zero hl
    refine ⟨.slice (some (b, 0)) 0 0 none, H, by simp [writeCells_nil], Upd.rfl, ?_⟩
    unfold Sl
    exact ⟨rfl, .inr ⟨_, _, _, _, rfl, Nat.le_refl _, .inl rfl, fun h => by omega⟩⟩
  · have hg : growFits (0 + m) 0 8 true = true := by
      simp only [growFits, Bool.and_eq_true, Bool.or_eq_true, decide_eq_true_eq]
      exact ⟨by omega, .inr ⟨⟨trivial, rfl⟩, by omega⟩⟩
    rw [if_neg (by omega)]
    simp only [Option.isNone_none, Bool.or_true, hg, if_true, srcCells, Nat.zero_mul]
    refine ⟨_, _, rfl, Upd.rfl.push _, ?_⟩
    rw [List.nil_append, Nat.zero_add]
    unfold Sl
    exact ⟨by omega, .inr ⟨_, _, _, _, rfl, Nat.le_refl _, .inr rfl, fun _ => ⟨by simp, new, 46, true, false, by simp, by omega, by rw [List.drop_zero, List.take_of_length_le (by omega)]⟩⟩⟩
theorem rightsTakes_main {l : List Nat} (hl : ∀ z ∈ l, z < 18446744073709551616) (hn : l.length ≤ 17592186044416) {H : Heap} (hL : Lain S01 H) {v : AV} (h : Sl H 1 v l.length (wordsC l)) : Cl Tryd.prog pr01 9 [v] H fun v _ => v = .bool true := by
  obtain ⟨a, cap, ex, rfl, hc, hex⟩ := h.form
  have kA : Keep H (H.push (.cells [] 46 true false)) := Upd.rfl.push _
  have h1 := Sl.kept h kA
  obtain ⟨v', H', e, kB, h2⟩ := app_words (b := H.next) h1.src' (by simp [wordsC]) hn
  have hL2 := lain_kept (lain_kept hL kA) kB
  have h3 : Sl H' 1 (.slice a l.length cap ex) l.length (wordsC l) := Sl.kept h1 kB
  obtain ⟨L, hLL⟩ : ∃ L, L = l.length := ⟨_, rfl⟩
  obtain ⟨a', cap', ex', rfl, hc', hex'⟩ := h2.form
  rw [← hLL] at e ⊢
  refine Cl.enter Tryd.func9 rfl rfl Tryd.ntmps9 (by simp) ?_
  refine walk e ?_
  rw [hLL]
  refine (takeL_ok hl hn h2).mono fun v H3 _ ⟨kC, e1⟩ => ?_
  subst e1
  have h4 := Sl.kept h3 kC
  have hL3 := lain_kept hL2 kC
  generalize hp : takeT l = p at *
  obtain ⟨pa, pe⟩ := p
  rw [← hLL]
  refine walk none0 ?_
  rw [hLL]
  refine (refTakeL_ok hl hn h4).mono fun v H4 _ ⟨kD, e1⟩ => ?_
  subst e1
  rw [hp]
  refine walk none0 ?_
  refine (lives_ok (lain_kept hL3 kD)).mono fun v H1 _ ⟨e1, e2⟩ => ?_
  subst e1; subst e2
  refine walk none0 ?_
  rfl
/-- Words that come in. -/
theorem words_of {H : Heap} {n : Nat} {a : AV} (h : PicV Tryd.prog H (n + 2) 43 a) (hz : Sized Tryd.prog [43] [a]) : ∃ l : List Nat, Sl H 1 a l.length (wordsC l) ∧ (∀ z ∈ l, z < 18446744073709551616) ∧ l.length ≤ 17592186044416 := by
  have hu : Tryd.prog.underlying 43 = some (.slice 46) := Tryd.underlying43
  obtain ⟨len, c, h1, h2, h3, h4⟩ := pic_slice (s := 1) hu (by kernel_rfl) (picV_slice hu h)
  have hc : ∀ (n : Nat) (c : List AV), c.length = n → (∀ i, i < n → ∃ z, (c.drop i).take 1 = [.int .u64 z] ∧ (Lit.int .u64 z).wf = true) → ∃ l : List Nat, c = wordsC l ∧ l.length = n ∧ ∀ z ∈ l, z < 18446744073709551616 := by
    intro n
    induction n with
    | zero => intro c hc _; exact ⟨[], by rw [List.eq_nil_of_length_eq_zero hc]; rfl, rfl, by simp⟩
    | succ n ih =>
      intro c hc hh
      cases c with
      | nil => cases hc
      | cons x c =>
        obtain ⟨z, e, hw⟩ := hh 0 (by omega)
        simp at e
        obtain ⟨l, e2, e3, e4⟩ := ih c (by simpa using hc) fun i hi => by
          obtain ⟨z, e, hw⟩ := hh (i + 1) (by omega)
          exact ⟨z, by simpa using e, hw⟩
        have hw' : 0 ≤ z ∧ z < 18446744073709551616 := by simp [Lit.wf, IntKind.min, IntKind.max, IntKind.signed, IntKind.bits] at hw; omega
        refine ⟨z.toNat :: l, ?_, by simp [e3], ?_⟩
        · rw [e, e2]
          simp only [wordsC, List.map_cons]
          rw [Int.toNat_of_nonneg hw'.1]
        · intro y hy
          rcases List.mem_cons.1 hy with rfl | hy
          · omega
          · exact e4 y hy
  obtain ⟨l, e1, e2, e3⟩ := hc len c (by have := h1.len; omega) fun i hi => by
    have := h4 i hi
    rw [Nat.mul_one] at this
    obtain ⟨z, hz, hw⟩ := pic_int (k := .u64) Tryd.underlying46 this
    exact ⟨z, hz, hw⟩
  obtain ⟨a1, cap, ex, rfl, _, _⟩ := h1.form
  have hb : Tryd.prog.bytesOf 46 = 8 := by kernel_rfl
  have := hz.1 46 a1 len cap ex hu rfl
  rw [hb] at this
  have hr : reachBytes < 2 ^ 47 := reachBytes_lt
  subst e1
  rw [← e2] at h1 this ⊢
  exact ⟨l, h1, e3, by omega⟩
end Go.Abs

/- RightsTakes: the row and its card. -/
namespace Go.Proofs.YtneaadcnpebfeaaDoor
open Go.ChangeShapes Go.WideShapes Go.ChangeAt Go.RowKit Go.Abs
set_option linter.unusedVariables false
set_option maxRecDepth 100000

theorem rightsTakesMain (H : Heap) (xs : List AV) (hG : Tryd.prog.globals.size ≤ H.next) (hw : Wf H) (hL : Lain S01 H) (h : PicAll Tryd.prog H 3 [43] xs) (hz : Sized Tryd.prog [43] xs) : CallsA Tryd.prog pr01 9 xs H fun v _ => v = .bool true := by
  obtain ⟨a0, r0, rfl, h0, hend⟩ := h
  obtain rfl : r0 = [] := hend
  refine Cl.callsA primsRl hw ?_
  obtain ⟨l, hs, hb, hn⟩ := words_of (n := 1) h0 hz
  exact rightsTakes_main hb hn hL hs

theorem rightsTakesLifted (os : Os) (started : os.Started) (H : Type) (enc : TypeId × Value → H) :
    ReturnsInHanded {} Tryd.checked os 9 .any (fun w args => (Rows.rightsTakesSpec.pre enc Tryd.prog Tryd.f9 [] false w args ∧ laidMetH Tryd.prog Rows.rightsTakesRow.laid w) ∧ sizedMet enc Tryd.prog Tryd.f9 (OpenSpec.ofChange Rows.rightsTakesSpec) false w args)
      (Rows.rightsTakesSpec.post enc Tryd.prog Tryd.f9 false true false false) := by
  refine returnsInHanded_of_change_and (C := Tryd.checked) (X := fun w _ => laidMetH Tryd.prog Rows.rightsTakesRow.laid w) (fun _ _ _ hh h => h.of_heap hh) own started (by kernel_rfl) Tryd.func9
    (ChangeSpec.witness_shaped (enc := enc) (C := Tryd.checked) (os := os) (X := fun w _ => laidMetH Tryd.prog Rows.rightsTakesRow.laid w) false (World.laidAll Tryd.prog os Rows.rightsTakesRow.laid) #[.slice none 0 0] 8 (World.laidAll_os _ _ _)
      (World.shaped_of_ZipB (by kernel_rfl) (by kernel_rfl)) (by kernel_rfl) (by kernel_rfl) (by kernel_rfl)
      (by rw [MakeChecks.laidMetH_plain _ _ _ (by kernel_rfl)]; exact laidMet_laidAll _ (by kernel_rfl) (by kernel_rfl))) ?_
  intro W base args ds gs before hval hW hcnd hwt hL _
  rw [MakeChecks.laidMetH_plain _ _ _ (by kernel_rfl)] at hL
  have ep : Tryd.f9.params.toList = [43] := by kernel_rfl
  refine law_post laidOut rfl (fun ds h => ?_) (tb := 4) (by kernel_rfl) Tryd.underlying4 ?_ hW (fun p hA => ?_)
  · rw [ep] at h
    match ds, h with
    | [a0], _ => rfl
  · rw [ep]
    intro t ht
    simp at ht
    subst ht; exact ⟨by kernel_rfl, of_decide_eq_true (by kernel_rfl)⟩
  · refine law_calls_sized primsOk mixed plainN Tryd.func9 rfl (S := S01) (tabs_of (Rows.rightsTakesRow.laid) W hL (by simp [Rows.rightsTakesRow])) tabs_get (n := 3) (base := base) (ts := Tryd.f9.params.toList) ?_ ?_ ?_ hA hwt
    · rw [ep]
      intro t ht
      simp at ht
      subst ht; kernel_rfl
    · rw [ep]
      exact rightsTakesMain
    · intro j t v h1 h2
      exact hval j t v (by simpa using h1) (by simpa using h2)

theorem rightsTakesRow : Rows.RightsTakesSaid :=
  OpenClaim.holds_of_wide 9 Tryd.f9 rfl rfl rfl rfl rfl rfl rfl ⟨rfl, rfl, rfl, rfl, rfl⟩ rfl rfl rfl rfl rfl (by kernel_rfl) Tryd.func9 (by kernel_rfl)
    (of_decide_eq_true (by kernel_rfl)) (by unfold Func.isWrapper; first | (rw [if_pos (by decide +kernel)]; kernel_rfl) | (rw [if_neg (by decide +kernel)]; exact ⟨rfl, rfl⟩))
    (fun os started H enc _ => rightsTakesLifted os started H enc)
theorem rightsTakes : Rows.RightsTakesCardSaid :=
  Claim7.holds_tied_plain_at .later [] [.data, .listed, .data, .pinned] true (true, "3c558693262e81124e8e6753285b3fd0b157d0ea282c00bc061785a35e975268") false rightsTakesRow (fun _ h => by cases h) (by kernel_rfl) (fun _ h => by cases h) rightsTakes_row_tie rfl ⟨rfl, rfl⟩ (by kernel_rfl) rfl
    (fun f fn hf hfn => by
      obtain rfl : f = 9 := Option.some.inj ((show Tryd.prog.funcNamed Rows.rightsTakesRow.func = some 9 by kernel_rfl).symm.trans hf) |>.symm
      obtain rfl : fn = Tryd.f9 := (Option.some.inj (Tryd.func9.symm.trans hfn)).symm
      exact ⟨by kernel_rfl, fun j t ht => by
        rw [Tryd.params9] at ht
        have hm : t ∈ [43] := by simpa using Array.mem_of_getElem? ht
        have hall : ([43].all fun u => !Tryd.prog.wantsStandIn u) = true := by kernel_rfl
        exact (show Tryd.prog.wantsStandIn t = false by simpa using List.all_eq_true.1 hall t hm)⟩)
    (by kernel_rfl)
-- #print axioms rightsTakes
end Go.Proofs.YtneaadcnpebfeaaDoor
