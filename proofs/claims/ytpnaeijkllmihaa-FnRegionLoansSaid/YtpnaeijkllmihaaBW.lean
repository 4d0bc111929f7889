/- Sets as words: what or, and, and-not and shifts make of natural numbers. -/
import Derived.Test.YtpnaeijkllmihaaD

import Derived.Laws.BitsLemmas

import Derived.Laws.Bits64

namespace Go.Proofs.Ytpnaeijkllmihaa

open Go.RowKit

theorem wraps_u64 (n : Int) (h₀ : 0 ≤ n) (h₁ : n < 2 ^ 64) : IntKind.u64.wrap n = n := by rw [IntKind.wrap_u64]; omega
theorem wraps_i64 (n : Int) (h₀ : 0 ≤ n) (h₁ : n < 2 ^ 63) : IntKind.i64.wrap n = n := by rw [IntKind.wrap_i64]; omega
theorem u64_or {a b : Nat} (ha : a < 2 ^ 64) (hb : b < 2 ^ 64) : bits .or .u64 (a : Int) (b : Int) = ((a ||| b : Nat) : Int) := (bits_nat .u64 64 (by decide) wraps_u64 a b ha hb).2
theorem u64_and {a b : Nat} (ha : a < 2 ^ 64) (hb : b < 2 ^ 64) : bits .and .u64 (a : Int) (b : Int) = ((a &&& b : Nat) : Int) := (bits_nat .u64 64 (by decide) wraps_u64 a b ha hb).1
theorem i64_or {a b : Nat} (ha : a < 2 ^ 63) (hb : b < 2 ^ 63) : bits .or .i64 (a : Int) (b : Int) = ((a ||| b : Nat) : Int) := (bits_nat .i64 63 (by decide) wraps_i64 a b ha hb).2
theorem i64_and {a b : Nat} (ha : a < 2 ^ 63) (hb : b < 2 ^ 63) : bits .and .i64 (a : Int) (b : Int) = ((a &&& b : Nat) : Int) := (bits_nat .i64 63 (by decide) wraps_i64 a b ha hb).1
/-- What is in a and not in b. -/
def ndiff (a b : Nat) : Nat := a ^^^ (a &&& b)
theorem ndiff_bit (a b k : Nat) : (ndiff a b).testBit k = (a.testBit k && !b.testBit k) := by
  unfold ndiff
  rw [Nat.testBit_xor, Nat.testBit_and]
  cases a.testBit k <;> cases b.testBit k <;> rfl
theorem ndiff_lt {a b n : Nat} (ha : a < 2 ^ n) : ndiff a b < 2 ^ n := Nat.xor_lt_two_pow ha (Nat.lt_of_le_of_lt Nat.and_le_left ha)
theorem bv_ndiff {a b : Nat} (ha : a < 2 ^ 64) : (BitVec.ofInt 64 (a : Int) &&& ~~~ BitVec.ofInt 64 (b : Int)).toNat = ndiff a b := by
  refine Nat.eq_of_testBit_eq fun k => ?_
  rw [ndiff_bit, BitVec.testBit_toNat, BitVec.getLsbD_and, BitVec.getLsbD_not, BitVec.ofInt_natCast, BitVec.ofInt_natCast, BitVec.getLsbD_ofNat, BitVec.getLsbD_ofNat]
  by_cases hk : k < 64
  · simp [hk]
  · have h1 := Nat.testBit_lt_two_pow (Nat.lt_of_lt_of_le ha (Nat.pow_le_pow_right (by omega) (Nat.le_of_not_lt hk)))
    simp [hk, h1]
theorem u64_andNot {a b : Nat} (ha : a < 2 ^ 64) : bits .andNot .u64 (a : Int) (b : Int) = (ndiff a b : Int) := by
  have h := bv_ndiff (b := b) ha
  show IntKind.u64.wrap ((BitVec.ofInt 64 (a : Int) &&& ~~~ BitVec.ofInt 64 (b : Int)).toNat : Nat) = _
  rw [h]
  have := ndiff_lt (b := b) ha
  exact wraps_u64 _ (by omega) (by omega)
theorem i64_andNot {a b : Nat} (ha : a < 2 ^ 63) : bits .andNot .i64 (a : Int) (b : Int) = (ndiff a b : Int) := by
  have h := bv_ndiff (a := a) (b := b) (by omega)
  show IntKind.i64.wrap ((BitVec.ofInt 64 (a : Int) &&& ~~~ BitVec.ofInt 64 (b : Int)).toNat : Nat) = _
  rw [h]
  have := ndiff_lt (b := b) ha
  exact wraps_i64 _ (by omega) (by omega)
theorem pow_cast (k : Nat) : (2 : Int) ^ k = ((2 ^ k : Nat) : Int) := by simp
theorem u64_one {k : Nat} (hk : k < 64) : IntKind.u64.wrap (1 * 2 ^ min (k : Int).toNat 64) = ((2 ^ k : Nat) : Int) := by
  rw [Int.toNat_natCast, Nat.min_eq_left (by omega), Int.one_mul, pow_cast]
  have : 2 ^ k < 2 ^ 64 := Nat.pow_lt_pow_right (by omega) hk
  generalize 2 ^ k = x at this ⊢
  exact wraps_u64 _ (by omega) (by omega)
theorem i64_one {k : Nat} (hk : k < 63) : IntKind.i64.wrap (1 * 2 ^ min (k : Int).toNat 64) = ((2 ^ k : Nat) : Int) := by
  rw [Int.toNat_natCast, Nat.min_eq_left (by omega), Int.one_mul, pow_cast]
  have : 2 ^ k < 2 ^ 63 := Nat.pow_lt_pow_right (by omega) hk
  generalize 2 ^ k = x at this ⊢
  exact wraps_i64 _ (by omega) (by omega)
theorem shr_nat {a k : Nat} (hk : k < 64) : (a : Int) / 2 ^ min (k : Int).toNat 64 = ((a / 2 ^ k : Nat) : Int) := by
  rw [Int.toNat_natCast, Nat.min_eq_left (by omega), pow_cast]; simp
theorem bit_one (a k : Nat) : a / 2 ^ k % 2 = if a.testBit k then 1 else 0 := by
  rw [Nat.testBit_eq_decide_div_mod_eq]
  have : a / 2 ^ k % 2 < 2 := Nat.mod_lt _ (by omega)
  by_cases h : a / 2 ^ k % 2 = 1 <;> simp [h]
  omega
theorem u64_bit {a k : Nat} (ha : a < 2 ^ 64) : bits .and .u64 ((a / 2 ^ k : Nat) : Int) 1 = if a.testBit k then 1 else 0 := by
  have h := u64_and (a := a / 2 ^ k) (b := 1) (Nat.lt_of_le_of_lt (Nat.div_le_self _ _) ha) (by omega)
  rw [show ((1 : Nat) : Int) = 1 from rfl] at h
  rw [h, Nat.and_one_is_mod, bit_one]
  split <;> rfl
theorem i64_bit {a k : Nat} (ha : a < 2 ^ 63) : bits .and .i64 ((a / 2 ^ k : Nat) : Int) 1 = if a.testBit k then 1 else 0 := by
  have h := i64_and (a := a / 2 ^ k) (b := 1) (Nat.lt_of_le_of_lt (Nat.div_le_self _ _) ha) (by omega)
  rw [show ((1 : Nat) : Int) = 1 from rfl] at h
  rw [h, Nat.and_one_is_mod, bit_one]
  split <;> rfl
/-- Above its highest bit a set has nothing. -/
theorem shr_zero {a k : Nat} : a / 2 ^ k = 0 ↔ a < 2 ^ k := by
  rw [Nat.div_eq_zero_iff]
  have : 0 < 2 ^ k := Nat.two_pow_pos k
  omega
end Go.Proofs.Ytpnaeijkllmihaa
