/-
  A part of the proof of windowLine_holds: see the text that holds it. No conditions of its own.
-/
import Derived.Test.YtbfhhinhjgdgpaaGreatDoorLoop
namespace Go.Yb
open Go
theorem ofInt_nat (w : Nat) (m : Nat) (h : m < 2 ^ w) : (BitVec.ofInt w (m : Int)).toNat = m := by
 rw [BitVec.toNat_ofInt, Int.emod_eq_of_lt (by omega) (by exact_mod_cast h)]
 omega
theorem and127 (m : Int) (h0 : 0 ≤ m) (h : m < 18446744073709551616) : Go.bits .and .u64 m 127 = m % 128 := by
 obtain ⟨k, rfl⟩ := Int.eq_ofNat_of_zero_le h0
 have e : Go.bits .and .u64 (k : Int) 127 = IntKind.u64.wrap ((BitVec.ofInt 64 (k : Int) &&& BitVec.ofInt 64 ((127 : Nat) : Int)).toNat : Nat) := rfl
 rw [e, BitVec.toNat_and, ofInt_nat 64 k (by omega), ofInt_nat 64 127 (by decide)]
 have h2 := Nat.and_two_pow_sub_one_eq_mod k 7
 rw [show (2 : Nat) ^ 7 - 1 = 127 from rfl, show (2 : Nat) ^ 7 = 128 from rfl] at h2
 rw [h2, IntKind.wrap_u64]
 omega
theorem andm32 (m : Int) (h0 : 0 ≤ m) (h : m < 18446744073709551616) : Go.bits .and .u64 m 4294967295 = m % 4294967296 := by
 obtain ⟨k, rfl⟩ := Int.eq_ofNat_of_zero_le h0
 have e : Go.bits .and .u64 (k : Int) 4294967295 = IntKind.u64.wrap ((BitVec.ofInt 64 (k : Int) &&& BitVec.ofInt 64 ((4294967295 : Nat) : Int)).toNat : Nat) := rfl
 rw [e, BitVec.toNat_and, ofInt_nat 64 k (by omega), ofInt_nat 64 4294967295 (by decide)]
 have h2 := Nat.and_two_pow_sub_one_eq_mod k 32
 rw [show (2 : Nat) ^ 32 - 1 = 4294967295 from rfl, show (2 : Nat) ^ 32 = 4294967296 from rfl] at h2
 rw [h2, IntKind.wrap_u64]
 omega
theorem or128_nat : ∀ k : Nat, k < 128 → k ||| 128 = k + 128 := by decide
theorem or128 (m : Int) (h0 : 0 ≤ m) (h : m < 128) : Go.bits .or .u8 m 128 = m + 128 := by
 obtain ⟨k, rfl⟩ := Int.eq_ofNat_of_zero_le h0
 have e : Go.bits .or .u8 (k : Int) 128 = IntKind.u8.wrap ((BitVec.ofInt 8 (k : Int) ||| BitVec.ofInt 8 ((128 : Nat) : Int)).toNat : Nat) := rfl
 rw [e, BitVec.toNat_or, ofInt_nat 8 k (by omega), ofInt_nat 8 128 (by decide), or128_nat k (by omega), IntKind.wrap_u8]
 omega
theorem xor_zero (m : Int) (h0 : 0 ≤ m) (h : m < 18446744073709551616) : Go.bits .xor .u64 m 0 = m := by
 obtain ⟨k, rfl⟩ := Int.eq_ofNat_of_zero_le h0
 have e : Go.bits .xor .u64 (k : Int) 0 = IntKind.u64.wrap ((BitVec.ofInt 64 (k : Int) ^^^ BitVec.ofInt 64 ((0 : Nat) : Int)).toNat : Nat) := rfl
 rw [e, BitVec.toNat_xor, ofInt_nat 64 k (by omega), ofInt_nat 64 0 (by decide), Nat.xor_zero, IntKind.wrap_u64]
 omega
theorem xor_ones (m : Int) (h0 : 0 ≤ m) (h : m < 18446744073709551616) : Go.bits .xor .u64 m 18446744073709551615 = 18446744073709551615 - m := by
 obtain ⟨k, rfl⟩ := Int.eq_ofNat_of_zero_le h0
 have e : Go.bits .xor .u64 (k : Int) 18446744073709551615 = IntKind.u64.wrap ((BitVec.ofInt 64 (k : Int) ^^^ BitVec.allOnes 64).toNat : Nat) := rfl
 rw [e, BitVec.xor_allOnes, BitVec.toNat_not, ofInt_nat 64 k (by omega), IntKind.wrap_u64]
 omega
/-- bits that lie apart -/
theorem or_apart (a b m : Nat) (hm : m < 64) (ha : a < 18446744073709551616) (hd : a % 2 ^ m = 0) (hb : b < 2 ^ m) : Go.bits .or .u64 (a : Int) (b : Int) = ((a + b : Nat) : Int) := by
 have hb64 : b < 18446744073709551616 := Nat.lt_of_lt_of_le hb (by have := Nat.pow_le_pow_right (n := 2) (by decide) (show m ≤ 64 by omega); simpa using this)
 have e : Go.bits .or .u64 (a : Int) (b : Int) = IntKind.u64.wrap ((BitVec.ofInt 64 (a : Int) ||| BitVec.ofInt 64 (b : Int)).toNat : Nat) := rfl
 rw [e, BitVec.toNat_or, ofInt_nat 64 a (by simpa using ha), ofInt_nat 64 b (by simpa using hb64)]
 have h1 : a = 2 ^ m * (a / 2 ^ m) := by have := Nat.div_add_mod a (2 ^ m); omega
 have h2 := Nat.two_pow_add_eq_or_of_lt hb (a / 2 ^ m)
 rw [← h1] at h2
 rw [← h2, IntKind.wrap_u64]
 have hlt : a + b < 18446744073709551616 := by
  rw [h2]; exact Nat.or_lt_two_pow (n := 64) (by simpa using ha) (by simpa using hb64)
 omega
end Go.Yb
