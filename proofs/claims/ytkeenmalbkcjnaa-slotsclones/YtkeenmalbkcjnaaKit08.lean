/- Texts on the abstract machine, joined. -/
import Derived.Test.YtkeenmalbkcjnaaKit06

/- The bits of numbers. -/
namespace Go.Abs
set_option linter.unusedVariables false
set_option linter.unusedSimpArgs false

def bitN (n : Int) (i : Nat) : Bool := ((n % 2 ^ IntKind.i64.bits).toNat).testBit i
theorem bits64 : IntKind.i64.bits = 64 := rfl
theorem modN_lt (n : Int) : (n % 2 ^ IntKind.i64.bits).toNat < 2 ^ 64 := by rw [bits64]; omega
theorem wrap_small {x : Nat} (h : x < 2 ^ 63) : IntKind.i64.wrap (x : Int) = x := by simp [IntKind.wrap, IntKind.signed, IntKind.bits]; omega
theorem wrap_zero {x : Nat} (h : x < 2 ^ 64) : IntKind.i64.wrap (x : Int) = 0 ↔ x = 0 := by
  constructor
  · intro e; simp [IntKind.wrap, IntKind.signed, IntKind.bits] at e; omega
  · rintro rfl; rfl
theorem wrap_mod {x : Nat} (h : x < 2 ^ 64) : (IntKind.i64.wrap (x : Int) % 2 ^ IntKind.i64.bits).toNat = x := by
  simp [IntKind.wrap, IntKind.signed, IntKind.bits]; omega
theorem bitN_high (n : Int) {i : Nat} (h : 64 ≤ i) : bitN n i = false :=
  Nat.testBit_lt_two_pow (Nat.lt_of_lt_of_le (modN_lt n) (Nat.pow_le_pow_right (by omega) h))
theorem fdiv_bit (n : Int) (i : Nat) (hi : i < 64) : decide (IntKind.i64.wrap (((n.fdiv (2 ^ min i IntKind.i64.bits) % 2 ^ IntKind.i64.bits).toNat &&& 1 % 2 ^ IntKind.i64.bits : Nat) : Int) = 1) = bitN n i := by
  unfold bitN
  have e1 : ((n.fdiv (2 ^ min i IntKind.i64.bits) % 2 ^ IntKind.i64.bits).toNat &&& 1 % 2 ^ IntKind.i64.bits) = (n.fdiv (2 ^ min i IntKind.i64.bits) % 2 ^ IntKind.i64.bits).toNat % 2 := Nat.and_two_pow_sub_one_eq_mod _ 1
  rw [e1, wrap_small (by omega), bits64, Nat.min_eq_left (by omega), Int.fdiv_eq_ediv_of_nonneg _ (Int.pow_nonneg (by omega)), Nat.testBit_eq_decide_div_mod_eq]
  congr 1
  obtain ⟨k, hk⟩ : ∃ k, 64 = i + (k + 1) := ⟨63 - i, by omega⟩
  have hp : (2 : Int) ^ 64 = 2 ^ i * (2 * 2 ^ k) := by rw [hk, Int.pow_add, Int.pow_succ, Int.mul_comm (2 ^ k) 2]
  have hA : (0 : Int) < 2 ^ i := Int.pow_pos (by omega)
  have h1 := Int.emod_add_mul_ediv n (2 ^ 64)
  have hm0 : 0 ≤ n % 2 ^ 64 := Int.emod_nonneg _ (by omega)
  generalize hm : n % 2 ^ 64 = m at *
  generalize n / 2 ^ 64 = q at *
  have h2 : n / 2 ^ i = m / 2 ^ i + 2 * (2 ^ k * q) := by
    rw [← h1, hp, Int.mul_assoc, Int.add_mul_ediv_left _ _ (by omega), Int.mul_assoc]
  rw [h2]
  generalize 2 ^ k * q = z
  have h3 : ((m.toNat / 2 ^ i : Nat) : Int) = m / 2 ^ i := by
    rw [Int.natCast_ediv, Int.toNat_of_nonneg hm0]
    simp
  generalize m.toNat / 2 ^ i = y at *
  rw [← h3]
  simp only [eq_iff_iff]
  omega
/-- Nothing of a number is beyond another one. -/
theorem andNot_zero (m o : Int) : (IntKind.i64.wrap (((m % 2 ^ IntKind.i64.bits).toNat &&& 2 ^ IntKind.i64.bits - 1 - (o % 2 ^ IntKind.i64.bits).toNat : Nat) : Int) = 0) = ∀ i < 64, bitN m i = true → bitN o i = true := by
  have hm := modN_lt m
  have ho := modN_lt o
  unfold bitN
  generalize (m % 2 ^ IntKind.i64.bits).toNat = x at *
  generalize (o % 2 ^ IntKind.i64.bits).toNat = y at *
  rw [bits64, eq_iff_iff, wrap_zero (Nat.lt_of_le_of_lt Nat.and_le_left hm)]
  have hb : ∀ i, (x &&& 2 ^ 64 - 1 - y).testBit i = (x.testBit i && (decide (i < 64) && !y.testBit i)) := fun i => by
    rw [Nat.testBit_and, show 2 ^ 64 - 1 - y = 2 ^ 64 - (y + 1) by omega, Nat.testBit_two_pow_sub_succ ho]
  constructor
  · intro h i hi hx
    have := hb i
    rw [h, Nat.zero_testBit, hx, decide_eq_true hi] at this
    simpa using this.symm
  · intro h
    apply Nat.eq_of_testBit_eq
    intro i
    rw [hb, Nat.zero_testBit]
    by_cases hi : i < 64
    · cases hx : x.testBit i with
      | false => rfl
      | true => rw [h i hi hx]; simp
    · have : x.testBit i = false := Nat.testBit_lt_two_pow (Nat.lt_of_lt_of_le hm (Nat.pow_le_pow_right (by omega) (by omega)))
      rw [this]; rfl
theorem or_bit (a b : Int) (i : Nat) : bitN (IntKind.i64.wrap (((a % 2 ^ IntKind.i64.bits).toNat ||| (b % 2 ^ IntKind.i64.bits).toNat : Nat) : Int)) i = (bitN a i || bitN b i) := by
  have ha := modN_lt a
  have hb := modN_lt b
  unfold bitN
  rw [wrap_mod (Nat.or_lt_two_pow ha hb), Nat.testBit_or]
end Go.Abs
