/-
  A part of the proof of windowLine_holds: see the text that holds it. No conditions of its own.
-/
import Derived.Test.YtbfhhinhjgdgpaaGreatDoorLoop
namespace Go.Yb
open Go
theorem nat_mid : ∀ (n x y : Nat), x ≤ n → x + y = 2 * (x &&& y) + (x ^^^ y) := by
  intro n
  induction n with
  | zero => intro x y h; have : x = 0 := by omega
            subst this; simp
  | succ n ih =>
    intro x y h
    by_cases h0 : x = 0
    · subst h0; simp
    have h1 := ih (x / 2) (y / 2) (by omega)
    have ha : (x &&& y) / 2 = x / 2 &&& y / 2 := Nat.and_div_two
    have hx : (x ^^^ y) / 2 = x / 2 ^^^ y / 2 := Nat.xor_div_two
    have hb : ((x &&& y) % 2 = 1) ↔ (x % 2 = 1 ∧ y % 2 = 1) := by
      have := Nat.testBit_and x y 0
      simp only [Nat.testBit_zero] at this
      rw [Bool.eq_iff_iff] at this
      simp
    have hc : ((x ^^^ y) % 2 = 1) ↔ ¬ (x % 2 = 1 ↔ y % 2 = 1) := by
      have := Nat.testBit_xor x y 0
      simp only [Nat.testBit_zero] at this
      rw [Bool.eq_iff_iff] at this
      rw [← decide_eq_true_eq (p := (x ^^^ y) % 2 = 1), this]
      by_cases h1 : x % 2 = 1 <;> by_cases h2 : y % 2 = 1 <;> simp [h1, h2]
    have e1 := Nat.div_add_mod (x &&& y) 2
    have e2 := Nat.div_add_mod (x ^^^ y) 2
    have e3 := Nat.div_add_mod x 2
    have e4 := Nat.div_add_mod y 2
    rw [ha] at e1
    rw [hx] at e2
    by_cases h2 : x % 2 = 1 <;> by_cases h3 : y % 2 = 1 <;> simp only [h2, h3, and_self, and_true, and_false, true_and, false_and, iff_true, iff_false, true_iff, not_true, not_false_iff, false_iff] at hb hc <;> omega
theorem mid_law (lo hi : Int) (h1 : -9223372036854775808 ≤ lo) (h2 : lo ≤ 9223372036854775807) (h3 : -9223372036854775808 ≤ hi) (h4 : hi ≤ 9223372036854775807) :
  Go.bits .and .i64 lo hi + Go.bits .xor .i64 lo hi / 2 = (lo + hi) / 2 := by
 have ea : Go.bits .and .i64 lo hi = IntKind.i64.wrap ((BitVec.ofInt 64 lo &&& BitVec.ofInt 64 hi).toNat : Nat) := rfl
 have ex : Go.bits .xor .i64 lo hi = IntKind.i64.wrap ((BitVec.ofInt 64 lo ^^^ BitVec.ofInt 64 hi).toNat : Nat) := rfl
 rw [ea, ex, BitVec.toNat_and, BitVec.toNat_xor, BitVec.toNat_ofInt, BitVec.toNat_ofInt, IntKind.wrap_i64, IntKind.wrap_i64]
 obtain ⟨X, hX⟩ : ∃ X, (lo % ((2 ^ 64 : Nat) : Int)).toNat = X := ⟨_, rfl⟩
 obtain ⟨Y, hY⟩ : ∃ Y, (hi % ((2 ^ 64 : Nat) : Int)).toNat = Y := ⟨_, rfl⟩
 rw [hX, hY]
 have hm := nat_mid X X Y (Nat.le_refl _)
 have e63 : (2 : Nat) ^ 63 = 9223372036854775808 := by decide
 have da := Nat.and_div_two_pow (a := X) (b := Y) (n := 63)
 have dx := Nat.xor_div_two_pow (a := X) (b := Y) (n := 63)
 rw [e63] at da dx
 have hX2 : X < 18446744073709551616 := by omega
 have hY2 : Y < 18446744073709551616 := by omega
 have sx : (lo < 0 ∧ lo = X - 18446744073709551616) ∨ (0 ≤ lo ∧ lo = X) := by omega
 have sy : (hi < 0 ∧ hi = Y - 18446744073709551616) ∨ (0 ≤ hi ∧ hi = Y) := by omega
 have bx : X / 9223372036854775808 = 0 ∨ X / 9223372036854775808 = 1 := by omega
 have by_ : Y / 9223372036854775808 = 0 ∨ Y / 9223372036854775808 = 1 := by omega
 clear hX hY e63
 obtain ⟨A, hA⟩ : ∃ A, X &&& Y = A := ⟨_, rfl⟩
 obtain ⟨B, hB⟩ : ∃ B, X ^^^ Y = B := ⟨_, rfl⟩
 rw [hA, hB] at hm
 rw [hA] at da ⊢
 rw [hB] at dx ⊢
 have hA3 : A < 18446744073709551616 := by
  have : A ≤ X := hA ▸ Nat.and_le_left
  omega
 have hB3 : B < 18446744073709551616 := by rw [← hB]; exact Nat.xor_lt_two_pow (n := 64) hX2 hY2
 have wa : (A < 9223372036854775808 ∧ ((A : Int) + 9223372036854775808) % 18446744073709551616 - 9223372036854775808 = A) ∨ (9223372036854775808 ≤ A ∧ ((A : Int) + 9223372036854775808) % 18446744073709551616 - 9223372036854775808 = A - 18446744073709551616) := by omega
 have wb : (B < 9223372036854775808 ∧ ((B : Int) + 9223372036854775808) % 18446744073709551616 - 9223372036854775808 = B) ∨ (9223372036854775808 ≤ B ∧ ((B : Int) + 9223372036854775808) % 18446744073709551616 - 9223372036854775808 = B - 18446744073709551616) := by omega
 obtain ⟨p, hp⟩ : ∃ p, ((A : Int) + 9223372036854775808) % 18446744073709551616 - 9223372036854775808 = p := ⟨_, rfl⟩
 obtain ⟨q, hq⟩ : ∃ q, ((B : Int) + 9223372036854775808) % 18446744073709551616 - 9223372036854775808 = q := ⟨_, rfl⟩
 rw [hp] at wa ⊢
 rw [hq] at wb ⊢
 clear hp hq hA hB
 have aux : ∀ u : Nat, u / 9223372036854775808 = 0 → u < 9223372036854775808 := by omega
 have aux1 : ∀ u : Nat, u / 9223372036854775808 = 1 → 9223372036854775808 ≤ u := by omega
 rcases bx with b | b <;> rcases by_ with c | c <;> rw [b, c] at da dx
 ·have da' := aux _ da; have dx' := aux _ dx; have := aux _ b; have := aux _ c; clear da dx b c; omega
 ·have da' := aux _ da; have dx' := aux1 _ dx; have := aux _ b; have := aux1 _ c; clear da dx b c; omega
 ·have da' := aux _ da; have dx' := aux1 _ dx; have := aux1 _ b; have := aux _ c; clear da dx b c; omega
 ·have da' := aux1 _ da; have dx' := aux _ dx; have := aux1 _ b; have := aux1 _ c; clear da dx b c; omega
end Go.Yb
