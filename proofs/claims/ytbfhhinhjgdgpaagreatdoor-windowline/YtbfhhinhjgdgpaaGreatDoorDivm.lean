/-
  A part of the proof of windowLine_holds: see the text that holds it. No conditions of its own.
-/

namespace Go.Yb
/-! Knuth's division, digit by digit: the plain law -/
/-- one digit's estimate: q and r with q * y1 + r = u -/
def KInv (u y1 t q r : Int) : Prop := q * y1 + r = u ∧ 0 ≤ r ∧ t ≤ q ∧ q ≤ 4294967297 ∧ 0 ≤ q

theorem dig_t {u u0 y1 y0 t : Int} (hy : 0 < y1 * 4294967296 + y0) (ht : t = (u * 4294967296 + u0) / (y1 * 4294967296 + y0)) {q r : Int} (h : q * y1 + r = u) :
  (q ≤ t ↔ q * y0 ≤ 4294967296 * r + u0) := by
 rw [ht, Int.le_ediv_iff_mul_le hy]
 have e : q * (y1 * 4294967296 + y0) = 4294967296 * (q * y1) + q * y0 := by
  rw [Int.mul_add, ← Int.mul_assoc, Int.mul_comm (q * y1)]
 rw [e]
 omega

theorem dig_top {u u0 y1 y0 t : Int} (hy1 : 2147483648 ≤ y1) (hy0 : 0 ≤ y0) (hu : u < y1 * 4294967296 + y0) (hu0 : u0 < 4294967296)
  (ht : t = (u * 4294967296 + u0) / (y1 * 4294967296 + y0)) : t < 4294967296 := by
 rw [ht]
 refine Int.ediv_lt_of_lt_mul (by omega) ?_
 omega

theorem dig_init {u u0 y1 y0 t : Int} (hy1 : 2147483648 ≤ y1) (hy1' : y1 < 4294967296) (hy0 : 0 ≤ y0) (hy0' : y0 < 4294967296) (hu : u < y1 * 4294967296 + y0) (hun : 0 ≤ u) (hu0 : u0 < 4294967296) (hu0' : 0 ≤ u0)
  (ht : t = (u * 4294967296 + u0) / (y1 * 4294967296 + y0)) : KInv u y1 t (u / y1) (u - u / y1 * y1) ∧ u - u / y1 * y1 < y1 := by
 have h1 := Int.mul_ediv_add_emod u y1
 have h2 := Int.emod_nonneg u (show y1 ≠ 0 by omega)
 have h3 := Int.emod_lt_of_pos u (show 0 < y1 by omega)
 have e1 : y1 * (u / y1) = u / y1 * y1 := Int.mul_comm _ _
 have hq : 0 ≤ u / y1 := Int.ediv_nonneg hun (by omega)
 refine ⟨⟨by omega, by omega, ?_, ?_, hq⟩, by omega⟩
 ·-- t ≤ u / y1
  rw [ht]
  refine Int.le_of_lt_add_one (Int.ediv_lt_of_lt_mul (by omega) ?_)
  have e2 : (u / y1 + 1) * (y1 * 4294967296 + y0) = (u / y1 * y1) * 4294967296 + y1 * 4294967296 + (u / y1 + 1) * y0 := by
   rw [Int.mul_add, Int.add_mul, Int.add_mul, ← Int.mul_assoc]; omega
  have e3 : 0 ≤ (u / y1 + 1) * y0 := Int.mul_nonneg (by omega) hy0
  rw [e2]; omega
 ·refine Int.le_of_lt_add_one (Int.ediv_lt_of_lt_mul (by omega) ?_)
  omega
/-- the loop's test is true: one less -/
theorem dig_step {u u0 y1 y0 t q r : Int} (hy : 0 < y1 * 4294967296 + y0) (hy1 : 0 ≤ y1) (ht : t = (u * 4294967296 + u0) / (y1 * 4294967296 + y0)) (htop : t < 4294967296) (ht0 : 0 ≤ t)
  (hi : KInv u y1 t q r) (hc : 4294967296 ≤ q ∨ 4294967296 * r + u0 < q * y0) : KInv u y1 t (q - 1) (r + y1) ∧ q - 1 ≤ 4294967296 := by
 obtain ⟨h1, h2, h3, h4, h5⟩ := hi
 have hlt : t < q := by
  rcases hc with hc | hc
  ·omega
  ·by_cases hh : q ≤ t
   ·have := (dig_t hy ht h1).1 hh; omega
   ·omega
 refine ⟨⟨?_, by omega, by omega, by omega, by omega⟩, by omega⟩
 rw [Int.sub_mul]; omega
/-- the loop's test is false -/
theorem dig_stop {u u0 y1 y0 t q r : Int} (hy : 0 < y1 * 4294967296 + y0) (ht : t = (u * 4294967296 + u0) / (y1 * 4294967296 + y0))
  (hi : KInv u y1 t q r) (hc : q * y0 ≤ 4294967296 * r + u0) : q = t := by
 obtain ⟨h1, h2, h3, h4, h5⟩ := hi
 have := (dig_t hy ht h1).2 hc
 omega
/-- the rest is great: no more to do -/
theorem dig_break {u u0 y1 y0 t q r : Int} (hy : 0 < y1 * 4294967296 + y0) (hy0 : 0 ≤ y0) (hy0' : y0 < 4294967296) (hu0 : 0 ≤ u0) (ht : t = (u * 4294967296 + u0) / (y1 * 4294967296 + y0))
  (hi : KInv u y1 t q r) (hq : q ≤ 4294967296) (hr : 4294967296 ≤ r) : q = t := by
 refine dig_stop hy ht hi ?_
 have : q * y0 ≤ 4294967296 * y0 := Int.mul_le_mul_of_nonneg_right hq hy0
 omega
/-- the next rest -/
theorem dig_rest {u u0 y t : Int} (hy : 0 < y) (ht : t = (u * 4294967296 + u0) / y) : u * 4294967296 + u0 - t * y = (u * 4294967296 + u0) % y ∧ 0 ≤ (u * 4294967296 + u0) % y ∧ (u * 4294967296 + u0) % y < y := by
 have h1 := Int.mul_ediv_add_emod (u * 4294967296 + u0) y
 have h2 := Int.emod_nonneg (u * 4294967296 + u0) (show y ≠ 0 by omega)
 have h3 := Int.emod_lt_of_pos (u * 4294967296 + u0) hy
 have e1 : y * ((u * 4294967296 + u0) / y) = (u * 4294967296 + u0) / y * y := Int.mul_comm _ _
 rw [ht]; omega
/-- both digits together -/
theorem dig_two {a u0 y t1 r1 t0 : Int} (hy : 0 < y) (h1 : a = t1 * y + r1) (hr : t0 = (r1 * 4294967296 + u0) / y) :
  (a * 4294967296 + u0) / y = t1 * 4294967296 + t0 ∧ (a * 4294967296 + u0) % y = (r1 * 4294967296 + u0) % y := by
 have e : a * 4294967296 + u0 = (r1 * 4294967296 + u0) + y * (t1 * 4294967296) := by
  rw [h1, Int.add_mul, ← Int.mul_assoc, Int.mul_comm y t1]; omega
 rw [e, Int.add_mul_ediv_left _ _ (by omega), Int.add_mul_emod_self_left]
 omega
end Go.Yb
