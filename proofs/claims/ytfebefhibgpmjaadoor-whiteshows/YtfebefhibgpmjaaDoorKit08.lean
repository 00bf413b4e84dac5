/- Texts on the abstract machine, joined. -/
import Derived.Test.YtfebefhibgpmjaaDoorKit06
import Derived.Lib.Join
import Derived.Lib.ItoaNum

/- Walking a function that yields: the pieces without a yield by the abstract machine; the yields by hand. -/
namespace Go.Abs
set_option linter.unusedVariables false
set_option linter.unusedSimpArgs false
section
variable {P : Program} {prims : Prims} {N : Nat} {ro : Option Nat} {nn : Nat} {Q : Exit → Act → World → Prop}

/-- A piece without a range, walked in the abstract machine. -/
theorem Wq.wpIn {c : Code} {e : Nat → AV} {H : Heap} {K : Post} {ρ : Map} {a : Act} {w : World} (hp : PrimsOk P prims) (hr : PrimsRl prims) (hm : P.follows .mixedOrders = true) (hn : plainNames P = true) (h : Wq P prims N c e H K) (hnr : noRange c = true)
    (hs : Sim P.globals.size ρ H w) (hf : Frel ρ (tab N e) a) (hwf : Wf H) (hfree : ∀ x e' H', K x e' H' → H'.next ≤ H.next)
    (hQ : ∀ x e' H' ρ' a' w', K x e' H' → Good P.globals.size ρ H w ρ' H' w' → Frel ρ' (tab N e') a' → a'.defers = a.defers → Q (exitOf x) a' w') : c.wpIn (Fr ro) nn P Q a w := by
  unfold Wq Wp at h
  obtain ⟨n, x, e', H', hrun, k⟩ := h hr hwf
  refine code_sound (acall_ok hp hm hn n) (acall_seq hp n) (acall_mono hp.1 n) hm c (.inr hnr) hrun hs hf hwf (fun b hb hb' => absurd (hfree x e' H' k) (by omega)) ?_
  intro ρ' a' w' hg hf' hd
  obtain ⟨ms, hms, _, hnil⟩ := hd
  rw [hnil hnr, List.nil_append] at hms
  exact hQ x e' H' ρ' a' w' k hg hf' hms

/-- An operation of a region, by the abstract machine. -/
theorem wpOps_step {ops : Array Oper} {i : Nat} {rest : List Nat} {o : Oper} {e : Nat → AV} {H H1 : Heap} {v : AV} {ρ : Map} {a : Act} {w : World} (hp : PrimsOk P prims) (hm : P.follows .mixedOrders = true) (hn : plainNames P = true)
    (ho : ops[i]? = some o) (hg : o.guard = none) (hr : opR P N e o.op H = some (v, H1)) (hs : Sim P.globals.size ρ H w) (hf : Frel ρ (tab N e) a) (hwf : Wf H) (hfree : ∀ b, H.next ≤ b → b < H1.next → ρ b = none)
    (h : ∀ ρ' a' w', Good P.globals.size ρ H w ρ' H1 w' → Frel ρ' (tab N (setEO e o.dst v)) a' → a'.defers = a.defers → wpOpsIn (Fr ro) nn P ops Q rest a' w') : wpOpsIn (Fr ro) nn P ops Q (i :: rest) a w := by
  simp only [wpOpsIn, ho]
  rw [if_pos (by simp [Region.wanted, hg])]
  have h1 : runOp P noCall (tab N e) o H = some (v, H1) := runOp_opR hr
  unfold runOp at h1
  split at h1
  case h_2 => cases h1
  rename_i s hsem
  have hno : CallOk P noCall := by intro f args H v H' h; cases h
  have hdo := sem_sound hno hsem hf hs.glob H w v H1 hs h1 hfree (fun _ _ => hwf)
  refine wp_of_delivers hdo ?_
  rintro u w1 ⟨ρ1, hg1, hv⟩
  refine h ρ1 _ w1 hg1 ?_ (put_defers _ _ _)
  rw [← put_tab]
  exact put_rel (VRels.mono hg1.ext _ _ hf) o.dst hv

theorem exec_yield {ρ : Operand → Value} {o : Oper} {x y : Operand} {ts : Array TypeId} {l : Nat} {w : World} {r : Next} (hop : o.op = .call { callee := .value x, args := #[y], argTypes := ts }) (hx : ρ x = .func (.yield l) #[] #[]) (hr : (Instr.yield l #[ρ y]).run P w = .ok r w) : (execOp ρ o).run P w = .ok r w := by
  unfold execOp
  rw [hop]
  simp only [resolve, hx]
  simp [go_sem, invoke, hr]
/-- A yield. -/
theorem wpOps_yield {ops : Array Oper} {i : Nat} {rest : List Nat} {o : Oper} {x y : Operand} {ts : Array TypeId} {l : Nat} {a : Act} {w : World} {R : Ending → World → Prop}
    (ho : ops[i]? = some o) (hg : o.guard = none) (hop : o.op = .call { callee := .value x, args := #[y], argTypes := ts }) (hx : a.eval x = .func (.yield l) #[] #[]) (hy : ∀ m, YieldAt Fence.wide m P l #[a.eval y] w R)
    (h : ∀ e W', R e W' → ∃ v, e = .returned v ∧ wpOpsIn (Fr ro) nn P ops Q rest (a.put o.dst v) W') : wpOpsIn (Fr ro) nn P ops Q (i :: rest) a w := by
  simp only [wpOpsIn, ho]
  rw [if_pos (by simp [Region.wanted, hg])]
  obtain ⟨fn, tmps, assign, body, hrun, hround⟩ := hy (nn - 1)
  unfold Oper.wpIn
  refine ⟨fun _ _ => trivial, ?_⟩
  rw [Oper.semAt_eq _ _ _ (by intro c hc; rw [hop] at hc; cases hc)]
  have he : (execOp a.eval o).run P w = .ok (.round l fn tmps assign body) w := exec_yield hop hx hrun
  rw [he]
  refine ⟨fun e => by simp [Fr, Fence.wide] at e, ?_⟩
  refine RoundIn.mono (show RoundIn (Fr ro) (nn - 1) P l fn tmps assign body w R from hround) ?_
  intro e W' hR
  obtain ⟨v, rfl, hv⟩ := h e W' hR
  exact hv
end
end Go.Abs

/- Splitting at a byte, plainly; small memories of three blocks. -/
namespace Go.Abs
set_option linter.unusedVariables false
set_option linter.unusedSimpArgs false

def splitB (c : UInt8) : List UInt8 → List (List UInt8)
  | [] => [[]]
  | b :: r => if b = c then [] :: splitB c r else match splitB c r with
    | h :: t => (b :: h) :: t
    | [] => [[b]]
theorem splitB_ne (c : UInt8) : ∀ s, splitB c s ≠ []
  | [] => by simp [splitB]
  | b :: r => by
    unfold splitB
    split
    · simp
    · split <;> simp
theorem idx_ge (c : UInt8) : ∀ s, -1 ≤ Lib.indexByte s c
  | [] => by simp [Lib.indexByte]
  | b :: r => by
    have := idx_ge c r
    unfold Lib.indexByte
    split
    · omega
    · split <;> omega
theorem idx_lt (c : UInt8) : ∀ s, Lib.indexByte s c < s.length
  | [] => by simp [Lib.indexByte]
  | b :: r => by
    have := idx_lt c r
    unfold Lib.indexByte
    simp only [List.length_cons]
    split
    · omega
    · split <;> omega
theorem splitB_none {c : UInt8} : ∀ {s : List UInt8}, Lib.indexByte s c < 0 → splitB c s = [s]
  | [], _ => rfl
  | b :: r, h => by
    have hge := idx_ge c r
    unfold Lib.indexByte at h
    split at h
    · omega
    · rename_i hb
      have hr : Lib.indexByte r c < 0 := by
        split at h
        · rename_i h1; simp at h1; omega
        · omega
      have hbc : ¬ b = c := by simpa using hb
      simp [splitB, hbc, splitB_none hr]
theorem splitB_some {c : UInt8} : ∀ {s : List UInt8} {k : Nat}, Lib.indexByte s c = k → splitB c s = s.take k :: splitB c (s.drop (k + 1))
  | [], k, h => by simp [Lib.indexByte] at h
  | b :: r, k, h => by
    unfold Lib.indexByte at h
    split at h
    · rename_i hb
      have hbc : b = c := by simpa using hb
      obtain rfl : k = 0 := by omega
      simp [splitB, hbc]
    · rename_i hb
      have hbc : ¬ b = c := by simpa using hb
      split at h
      · omega
      · rename_i h1
        have hge := idx_ge c r
        have h1' : ¬ Lib.indexByte r c = -1 := by simpa using h1
        have hk : Lib.indexByte r c = ((k - 1 : Nat) : Int) := by omega
        have ih := splitB_some (s := r) hk
        obtain ⟨k', rfl⟩ : ∃ k', k = k' + 1 := ⟨k - 1, by omega⟩
        simp only [Nat.add_sub_cancel] at ih
        simp [splitB, hbc, ih]

/-- A memory of three blocks alone. -/
def K3 (nx b1 b2 b3 : Nat) (o1 o2 o3 : AObj) : Heap := ((({ next := nx, tree := .leaf } : Heap).set b1 o1).set b2 o2).set b3 o3
section
variable {nx b1 b2 b3 : Nat} {o1 o2 o3 : AObj}
theorem K3.next : (K3 nx b1 b2 b3 o1 o2 o3).next = nx := by simp [K3]
theorem K3.get (h12 : b1 ≠ b2) (h13 : b1 ≠ b3) (h23 : b2 ≠ b3) (b : Nat) : (K3 nx b1 b2 b3 o1 o2 o3).get b = if b = b1 then some o1 else if b = b2 then some o2 else if b = b3 then some o3 else none := by
  unfold K3
  simp only [Heap.get_set]
  have : ({ next := nx, tree := .leaf } : Heap).get b = none := rfl
  rw [this]
  by_cases e1 : b = b1
  · subst e1; simp [h12, h13]
  · by_cases e2 : b = b2
    · subst e2; simp [e1, h23]
    · simp [e1, e2]
theorem K3.wf (l1 : b1 < nx) (l2 : b2 < nx) (l3 : b3 < nx) (h12 : b1 ≠ b2) (h13 : b1 ≠ b3) (h23 : b2 ≠ b3) : Wf (K3 nx b1 b2 b3 o1 o2 o3) := by
  intro b hb
  rw [K3.next] at hb
  rw [K3.get h12 h13 h23, if_neg (by omega), if_neg (by omega), if_neg (by omega)]
end
end Go.Abs

/- Lists of texts in memory. -/
namespace Go.Abs

set_option maxRecDepth 100000
set_option linter.unusedVariables false
set_option linter.unusedSimpArgs false

abbrev Txt := List UInt8
def strs (l : List Txt) : List AV := l.map AV.str
@[simp] theorem strs_len (l : List Txt) : (strs l).length = l.length := by simp [strs]
theorem strs_one (l : List Txt) : (strs l).all AV.one = true := by
  rw [List.all_eq_true]; intro x hx; simp [strs] at hx; obtain ⟨y, _, rfl⟩ := hx; rfl
theorem strs_app (l m : List Txt) : strs l ++ strs m = strs (l ++ m) := by simp [strs]
/-- A slice that holds these texts. -/
def Ss (H : Heap) (v : AV) (l : List Txt) : Prop := Sl H 1 v l.length (strs l)
theorem Ss.kept {H H' : Heap} {v : AV} {l : List Txt} (h : Ss H v l) (u : Keep H H') : Ss H' v l := Sl.kept h u
theorem str_at {H : Heap} {a : Option (Nat × Nat)} {n cap : Nat} {ex : Option Nat} {l : List Txt} {i : Nat} {x : Txt} (h : Ss H (.slice a n cap ex) l) (hx : l[i]? = some x) :
    ∃ b o c t w m, a = some (b, o) ∧ n = l.length ∧ b < H.next ∧ H.get b = some (.cells c t w m) ∧ o + i < c.length ∧ c[o + i]? = some (.str x) := by
  have hi := (List.getElem?_eq_some_iff.1 hx).1
  obtain ⟨a', cap', ex', e, _⟩ := Sl.form h
  injection e with e1 e2 e3 e4
  subst e1; subst e2; subst e3; subst e4
  obtain ⟨b, o, c, t, w, m, rfl, h1, h2, h3, h4⟩ := Sl.at h (by omega)
  refine ⟨b, o, c, t, w, m, rfl, rfl, h1, h2, by omega, ?_⟩
  rw [sub_get h4 (by omega)]
  simp [strs, hx]
theorem Ss.form {H : Heap} {v : AV} {l : List Txt} (h : Ss H v l) : ∃ a cap ex, v = .slice a l.length cap ex ∧ l.length ≤ cap ∧ (ex = none ∨ ex = some 1) := Sl.form h
theorem get_lt' {α : Type} {l : List α} {i : Nat} (h : i < l.length) : ∃ x, l[i]? = some x := ⟨l[i], by simp [h]⟩
theorem Ss.pushed {H : Heap} {l : List Txt} {n : Nat} {t : TypeId} {w m : Bool} (hn : n = l.length) {ex : Option Nat} (hex : ex = none ∨ ex = some 1) {cs : List AV} (hcs : cs = strs l) : Ss (H.push (.cells cs t w m)) (.slice (some (H.next, 0)) n n ex) l := by
  subst hn; subst hcs
  unfold Ss Sl
  refine ⟨by simp, .inr ⟨H.next, 0, l.length, ex, rfl, Nat.le_refl _, hex, fun h0 => ⟨by simp, strs l, t, w, m, by simp, by simp, by simp [List.take_of_length_le]⟩⟩⟩
end Go.Abs

/- Texts joined between bytes. -/
namespace Go.Abs
open Go.Proofs
set_option linter.unusedVariables false

theorem splitB_whole {c : UInt8} : ∀ {p : Txt}, c ∉ p → splitB c p = [p]
  | [], _ => rfl
  | b :: r, h => by
    have hb : b ≠ c := fun e => h (by simp [e])
    have hr := splitB_whole (p := r) (fun e => h (List.mem_cons_of_mem _ e))
    unfold splitB
    rw [if_neg hb, hr]
theorem splitB_cut {c : UInt8} (q : Txt) : ∀ {p : Txt}, c ∉ p → splitB c (p ++ c :: q) = p :: splitB c q
  | [], _ => by rw [List.nil_append]; conv => lhs; unfold splitB; rw [if_pos rfl]
  | b :: r, h => by
    have hb : b ≠ c := fun e => h (by simp [e])
    have hr := splitB_cut q (p := r) (fun e => h (List.mem_cons_of_mem _ e))
    rw [List.cons_append]
    conv => lhs; unfold splitB; rw [if_neg hb, hr]
theorem inter_cons {sep : Txt} (x y : Txt) (l : List Txt) : Lib.join (x :: y :: l) sep = x ++ (sep ++ Lib.join (y :: l) sep) := by
  simp [Lib.join, List.intercalate, List.intersperse]
theorem join_nil' {sep : Txt} : Lib.join [] sep = [] := by simp [Lib.join]
theorem join_one' {sep : Txt} (x : Txt) : Lib.join [x] sep = x := by simp [Lib.join, List.intercalate, List.intersperse]
theorem splitB_join {c : UInt8} : ∀ (x : Txt) (r : List Txt), c ∉ x → (∀ y ∈ r, c ∉ y) → splitB c (Lib.join (x :: r) [c]) = x :: r
  | x, [], hx, _ => by rw [join_one', splitB_whole hx]
  | x, y :: r, hx, hr => by
    rw [inter_cons, List.singleton_append, splitB_cut _ hx, splitB_join y r (hr y (by simp)) fun z hz => hr z (by simp [hz])]
theorem join_snoc {sep : Txt} : ∀ {l : List Txt} {x : Txt}, l ≠ [] → Lib.join (l ++ [x]) sep = Lib.join l sep ++ (sep ++ x)
  | [], x, h => absurd rfl h
  | [y], x, _ => by simp [Lib.join, List.intercalate, List.intersperse]
  | y :: z :: l, x, _ => by
    have := join_snoc (sep := sep) (l := z :: l) (x := x) (by simp)
    simp only [List.cons_append] at this ⊢
    rw [inter_cons, inter_cons, this]
    simp
theorem join_bound {sep : Txt} {k : Nat} : ∀ {l : List Txt}, (∀ x ∈ l, x.length ≤ k) → (Lib.join l sep).length ≤ l.length * (k + sep.length)
  | [], _ => by simp [join_nil']
  | [x], h => by rw [join_one']; have := h x (by simp); simp; omega
  | x :: y :: l, h => by
    have h1 := h x (by simp)
    have h2 := join_bound (sep := sep) (l := y :: l) (fun z hz => h z (List.mem_cons_of_mem _ hz))
    rw [inter_cons, List.length_append, List.length_append]
    generalize (Lib.join (y :: l) sep).length = J at *
    simp only [List.length_cons] at h2 ⊢
    rw [Nat.add_mul (l.length + 1) 1]
    omega
/-- Digits. -/
theorem dec_digit (u : Nat) : ∀ b ∈ Lib.decDigits u, 48 ≤ b.toNat ∧ b.toNat ≤ 57 := by
  induction u using Nat.strongRecOn with
  | _ u ih =>
    intro b hb
    rw [Lib.decDigits] at hb
    split at hb
    · simp at hb; subst hb
      have : (48 + u) % 256 = 48 + u := Nat.mod_eq_of_lt (by omega)
      simp; omega
    · rcases List.mem_append.1 hb with h | h
      · exact ih (u / 10) (by omega) b h
      · simp at h; subst h; simp; omega
theorem dec_ne (u : Nat) : Lib.decDigits u ≠ [] := by
  rw [Lib.decDigits]
  split <;> simp
theorem dec_lo {u : Nat} (h : u < 10) : Lib.decDigits u = [UInt8.ofNat (48 + u)] := by rw [Lib.decDigits, dif_pos h]
theorem dec_hi {u : Nat} (h : ¬ u < 10) : Lib.decDigits u = Lib.decDigits (u / 10) ++ [UInt8.ofNat (48 + u % 10)] := by rw [Lib.decDigits, dif_neg h]
theorem dec_inj : ∀ {u v : Nat}, Lib.decDigits u = Lib.decDigits v → u = v := by
  intro u
  induction u using Nat.strongRecOn with
  | _ u ih =>
    intro v h
    by_cases h1 : u < 10 <;> by_cases h2 : v < 10
    · rw [dec_lo h1, dec_lo h2] at h
      simp at h
      have := congrArg UInt8.toNat h
      simp at this; omega
    · rw [dec_lo h1, dec_hi h2] at h
      have := congrArg List.length h
      have h3 := List.length_pos_iff.2 (dec_ne (v / 10))
      rw [List.length_append, List.length_singleton, List.length_singleton] at this; omega
    · rw [dec_hi h1, dec_lo h2] at h
      have := congrArg List.length h
      have h3 := List.length_pos_iff.2 (dec_ne (u / 10))
      rw [List.length_append, List.length_singleton, List.length_singleton] at this; omega
    · rw [dec_hi h1, dec_hi h2] at h
      obtain ⟨e1, e2⟩ := List.append_inj' h (by simp)
      have e3 := ih (u / 10) (by omega) e1
      simp at e2
      have := congrArg UInt8.toNat e2
      simp at this
      omega
theorem dec_list : ∀ {l m : List Nat}, l.map Lib.decDigits = m.map Lib.decDigits → l = m
  | [], [], _ => rfl
  | [], _ :: _, h => by cases h
  | _ :: _, [], h => by cases h
  | x :: l, y :: m, h => by
    simp only [List.map_cons, List.cons.injEq] at h
    rw [dec_inj h.1, dec_list h.2]
theorem no44 {l : List Nat} : ∀ x ∈ l.map Lib.decDigits, (44 : UInt8) ∉ x := by
  intro x hx h
  obtain ⟨u, _, rfl⟩ := List.mem_map.1 hx
  have := dec_digit u 44 h
  simp at this
theorem joinD_inj {l m : List Nat} (hl : l ≠ []) (hm : m ≠ []) (h : Lib.join (l.map Lib.decDigits) [44] = Lib.join (m.map Lib.decDigits) [44]) : l = m := by
  apply dec_list
  cases l with
  | nil => exact absurd rfl hl
  | cons x l =>
    cases m with
    | nil => exact absurd rfl hm
    | cons y m =>
      have h1 := splitB_join (c := 44) (Lib.decDigits x) (l.map Lib.decDigits) (no44 (l := x :: l) _ (by simp)) (fun z hz => no44 (l := l) z hz)
      have h2 := splitB_join (c := 44) (Lib.decDigits y) (m.map Lib.decDigits) (no44 (l := y :: m) _ (by simp)) (fun z hz => no44 (l := m) z hz)
      rw [List.map_cons, List.map_cons] at h
      rw [h] at h1
      rw [List.map_cons, List.map_cons]
      exact h1.symm.trans h2
theorem joinD_head {l : List Nat} (hl : l ≠ []) : ∃ b r, Lib.join (l.map Lib.decDigits) [44] = b :: r ∧ 48 ≤ b.toNat ∧ b.toNat ≤ 57 := by
  cases l with
  | nil => exact absurd rfl hl
  | cons x l =>
    cases hd : Lib.decDigits x with
    | nil => exact absurd hd (dec_ne x)
    | cons b r =>
      have hb := dec_digit x b (by rw [hd]; simp)
      cases l with
      | nil => exact ⟨b, r, by simp [join_one', hd], hb⟩
      | cons y l => exact ⟨b, _, by rw [List.map_cons, List.map_cons, inter_cons, hd]; rfl, hb⟩
end Go.Abs
