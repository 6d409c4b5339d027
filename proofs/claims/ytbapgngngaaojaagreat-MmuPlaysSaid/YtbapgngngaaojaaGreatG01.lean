/- Numbers: words of 64 bits, their bits and fields. -/
import Derived.Laws.Bits64b
import Derived.IntWalk

namespace Go.Proofs.YtbapgngngaaojaaGreat
def andN (a b : Nat) : Nat := a &&& (18446744073709551615 ^^^ b)
theorem andN_bit {a : Nat} (b i : Nat) (ha : a < 18446744073709551616) : (andN a b).testBit i = (a.testBit i && !b.testBit i) := by
 unfold andN
 rw [Nat.testBit_and, Nat.testBit_xor, show (18446744073709551615 : Nat) = 2 ^ 64 - 1 from rfl, Nat.testBit_two_pow_sub_one]
 by_cases h : i < 64
 ·simp [h]
 ·have : a.testBit i = false := Nat.testBit_lt_two_pow (Nat.lt_of_lt_of_le ha (Nat.pow_le_pow_right (n := 2) (by omega) (show 64 ≤ i by omega)))
  simp [this]
theorem bits_andNot (a b : Nat) (ha : a < 18446744073709551616) (hb : b < 18446744073709551616) : bits .andNot .u64 (a : Int) (b : Int) = ((andN a b : Nat) : Int) := by
 have hx : andN a b < 2 ^ 64 := by unfold andN; exact Nat.and_lt_two_pow _ (Nat.xor_lt_two_pow (by omega) (by omega))
 have h1 : (BitVec.ofInt 64 (a : Int)).toNat = a := by
  rw [BitVec.ofInt_natCast, BitVec.toNat_ofNat]; exact Nat.mod_eq_of_lt (by omega)
 have h2 : (BitVec.ofInt 64 (b : Int)).toNat = b := by
  rw [BitVec.ofInt_natCast, BitVec.toNat_ofNat]; exact Nat.mod_eq_of_lt (by omega)
 show IntKind.u64.wrap ((BitVec.ofInt 64 (a : Int) &&& ~~~BitVec.ofInt 64 (b : Int)).toNat : Int) = _
 have h3 : (BitVec.ofInt 64 (a : Int) &&& ~~~BitVec.ofInt 64 (b : Int)).toNat = andN a b := by
  rw [BitVec.toNat_and, BitVec.toNat_not, h1, h2]
  refine Nat.eq_of_testBit_eq fun i => ?_
  rw [andN_bit b i ha, Nat.testBit_and]
  have := Nat.testBit_two_pow_sub_succ (x := b) (n := 64) (by omega) i
  rw [show 2 ^ 64 - 1 - b = 2 ^ 64 - (b + 1) by omega, this]
  by_cases h : i < 64
  ·simp [h]
  ·have : a.testBit i = false := Nat.testBit_lt_two_pow (Nat.lt_of_lt_of_le ha (Nat.pow_le_pow_right (n := 2) (by omega) (show 64 ≤ i by omega)))
   simp [this]
 rw [h3, IntKind.wrap_u64]
 omega
theorem andN_low (x n : Nat) (hx : x < 18446744073709551616) : andN x (2 ^ n - 1) = x - x % 2 ^ n := by
 have h : x - x % 2 ^ n = x / 2 ^ n * 2 ^ n := by have := Nat.div_add_mod x (2 ^ n); rw [Nat.mul_comm] at this; omega
 rw [h]
 refine Nat.eq_of_testBit_eq fun i => ?_
 rw [andN_bit _ i hx, Nat.testBit_two_pow_sub_one, Nat.testBit_mul_two_pow, Nat.testBit_div_two_pow]
 by_cases hi : i < n
 ·simp [hi, show ¬ n ≤ i by omega]
 ·simp [hi, show n ≤ i by omega]
/-- A word without a field's bits. -/
theorem andN_field (x low wide : Nat) (hx : x < 18446744073709551616) : andN x ((2 ^ wide - 1) * 2 ^ low) = x % 2 ^ low + x / 2 ^ (low + wide) * 2 ^ (low + wide) := by
 have h1 : x % 2 ^ low < 2 ^ (low + wide) := Nat.lt_of_lt_of_le (Nat.mod_lt _ (Nat.two_pow_pos _)) (Nat.pow_le_pow_right (by omega) (by omega))
 rw [Nat.add_comm (x % 2 ^ low)]
 refine Nat.eq_of_testBit_eq fun i => ?_
 rw [andN_bit _ i hx, Nat.testBit_mul_two_pow, Nat.testBit_two_pow_sub_one]
 rw [Nat.mul_comm (x / _), Nat.testBit_two_pow_mul_add _ h1, Nat.testBit_mod_two_pow, Nat.testBit_div_two_pow]
 by_cases hi : i < low + wide
 ·by_cases hl : low ≤ i
  ·simp [hi, hl, show ¬ i < low by omega, show i - low < wide by omega]
  ·simp [hi, hl, show i < low by omega]
 ·simp [hi, show low ≤ i by omega, show ¬ i - low < wide by omega, show i - (low + wide) + (low + wide) = i by omega]
/-- Bits that do not meet: 'or' is a sum. -/
theorem or_sum {a b : Nat} (k : Nat) (h : a < 2 ^ k) : a ||| b * 2 ^ k = a + b * 2 ^ k := by
 have := Nat.shiftLeft_add_eq_or_of_lt (i := k) (b := a) h b
 rw [Nat.shiftLeft_eq] at this
 rw [Nat.or_comm, ← this, Nat.add_comm]
theorem and_ones (x n : Nat) : x &&& (2 ^ n - 1) = x % 2 ^ n := Nat.and_two_pow_sub_one_eq_mod x n
theorem pow_lt64 {n : Nat} (h : n < 64) : 2 ^ n < 18446744073709551616 := by
 have := Nat.pow_lt_pow_right (a := 2) (by omega) h
 simpa using this
end Go.Proofs.YtbapgngngaaojaaGreat
