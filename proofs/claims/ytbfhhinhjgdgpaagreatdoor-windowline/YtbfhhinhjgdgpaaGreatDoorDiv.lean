/-
  A part of the proof of windowLine_holds: see the text that holds it. No conditions of its own.
-/
import Derived.Test.YtbfhhinhjgdgpaaGreatDoorTab
import Derived.Test.YtbfhhinhjgdgpaaGreatDoorBits2
import Derived.Test.YtbfhhinhjgdgpaaGreatDoorDivm
namespace Go.Yb
open Go Go.Proofs Go.RowKit

/-! math/bits: Len64, LeadingZeros64, Div64 -/
def len8 (i : Nat) : Nat := if i = 0 then 0 else if i < 2 then 1 else if i < 4 then 2 else if i < 8 then 3 else if i < 16 then 4 else if i < 32 then 5 else if i < 64 then 6 else if i < 128 then 7 else 8
theorem len8_le (i : Nat) : len8 i ≤ 8 := by unfold len8; repeat' split
                                             all_goals omega
theorem len8_law (i : Nat) (h0 : 0 < i) (h1 : i < 256) : 1 ≤ len8 i ∧ 2 ^ (len8 i - 1) ≤ i ∧ i < 2 ^ (len8 i) := by
 unfold len8
 rw [if_neg (by omega)]
 repeat' split
 all_goals (refine ⟨by decide, ?_, ?_⟩ <;> simp <;> omega)
theorem u8_id {a : Int} (h0 : 0 ≤ a) (h1 : a < 256) : IntKind.u8.wrap a = a := by rw [IntKind.wrap_u8]; omega
theorem k64_id {a : Int} (h0 : 0 ≤ a) (h1 : a < 18446744073709551616) : IntKind.u64.wrap a = a := by rw [IntKind.wrap_u64]; omega
theorem i64_len (i : Nat) : IntKind.i64.wrap (len8 i : Int) = (len8 i : Int) := by have := len8_le i; rw [IntKind.wrap_i64]; omega
theorem len8_add (K : Int) (i : Nat) (h0 : 0 ≤ K) (h : K ≤ 56) : -9223372036854775808 ≤ K + (len8 i : Int) ∧ K + (len8 i : Int) ≤ 9223372036854775807 := by have := len8_le i; omega
theorem len_join (x K Q : Nat) (hQ : 2 ^ K = Q) (hb : 0 < x / Q) (hb2 : x / Q < 256) : 1 ≤ K + len8 (x / Q) ∧ 2 ^ (K + len8 (x / Q) - 1) ≤ x ∧ x < 2 ^ (K + len8 (x / Q)) := by
 obtain ⟨h1, h2, h3⟩ := len8_law _ hb hb2
 have hq : 0 < Q := by rw [← hQ]; exact Nat.two_pow_pos K
 have d := Nat.div_add_mod x Q
 have dm := Nat.mod_lt x hq
 refine ⟨by omega, ?_, ?_⟩
 ·rw [show K + len8 (x / Q) - 1 = K + (len8 (x / Q) - 1) from by omega, Nat.pow_add, hQ]
  have : Q * 2 ^ (len8 (x / Q) - 1) ≤ Q * (x / Q) := Nat.mul_le_mul_left _ h2
  omega
 ·rw [Nat.pow_add, hQ]
  have : Q * (x / Q + 1) ≤ Q * 2 ^ len8 (x / Q) := Nat.mul_le_mul_left _ h3
  rw [Nat.mul_add] at this
  omega
section
variable {P : Program} {e : Env} {L : List Res} {d : Option Tmp} {ty : TypeId} {pos : String} {af : Array Edge} {g : Option (Nat × Bool)}
theorem Yl.indexStr {T : TypeId} {x y : Operand} {s : ByteArray} {k : IntKind} {j : Int} {i : Nat} (gt : Nat → Nat) (hT : P.underlying T = some .string) (hx : Env.ev e x = some (.string s)) (hy : Env.ev e y = some (.int k j)) (hj : j = (i : Int)) (hlt : i < 256)
    (hs : ∀ i, i < 256 → (s[i]?).map UInt8.toNat = some (gt i)) : Yl P e L ⟨d, .index T x y, ty, pos, af, g⟩ (.int .u8 (gt i : Int)) :=
  Yl.of rfl fun _ _ _ _ w ha _ => by
    have h1 := hs i hlt
    cases hb : s[i]? with
    | none => rw [hb] at h1; cases h1
    | some b =>
      rw [hb] at h1
      simp only [Option.map_some, Option.some.injEq] at h1
      have h2 : (0 : Int) ≤ (i : Int) := by omega
      simp only [execOp, ha.eval hx, ha.eval hy, Instr.index, asIntOf, Sem.run_bind, Sem.run_pure, Result.andThen_ok, run_underlying hT, hj, h2, if_true, Int.toNat_natCast, hb, h1]
end
theorem c_Len64 (x : Nat) (h0 : 0 < x) (h1 : x < 18446744073709551616) : FnC Tryz.prog 287 #[.int .u64 (x : Int)] [] (fun v L' => ∃ (j : Int) (m : Nat), v = .int .i64 j ∧ j = (m : Int) ∧ 1 ≤ m ∧ m ≤ 64 ∧ 2 ^ (m - 1) ≤ x ∧ x < 2 ^ m ∧ L' = []) := by
 refine FnC.go (m := 25) Tryz.func287 Tryz.ntmps287 rfl (Nat.le_of_ble_eq_true rfl) (fun Lf => ?_)
 refine Wr ?_
 refine Oy rfl (Yl.assign rfl) ?_
 refine OW.nil ?_
 refine W.seq ?_
 refine Wr ?_
 refine Oy rfl (Yl.move rfl) ?_
 refine Oy rfl (Yl.geq rfl rfl) ?_
 refine OW.nil ?_
 refine W.cond rfl (fun hq1 => ?_) (fun hq1 => ?_)
 ·have hq1d := of_decide_eq_true hq1
  refine Wr ?_
  refine Oy rfl (Yl.move rfl) ?_
  refine Oy rfl (Yl.shr 32 4294967296 rfl rfl rfl (by decide) (by decide)) ?_
  refine Oy rfl (Yl.assign rfl) ?_
  refine OW.nil ?_
  refine W.region ?_
  refine Oy rfl (Yl.assign rfl) ?_
  refine OW.nil ?_
  refine W.seq ?_
  refine Wr ?_
  refine Oy rfl (Yl.move rfl) ?_
  refine Oy rfl (Yl.geq rfl rfl) ?_
  refine OW.nil ?_
  refine W.cond rfl (fun hq2 => ?_) (fun hq2 => ?_)
  ·have hq2d := of_decide_eq_true hq2
   refine Wr ?_
   refine Oy rfl (Yl.move rfl) ?_
   refine Oy rfl (Yl.shr 16 65536 rfl rfl rfl (by decide) (by decide)) ?_
   refine Oy rfl (Yl.assign rfl) ?_
   refine OW.nil ?_
   refine W.region ?_
   refine Oy rfl (Yl.move rfl) ?_
   refine Oy rfl (Yl.addW (c := 48) rfl rfl rfl) ?_
   refine Oy rfl (Yl.assign rfl) ?_
   refine OW.nil ?_
   refine W.seq ?_
   refine Wr ?_
   refine Oy rfl (Yl.move rfl) ?_
   refine Oy rfl (Yl.geq rfl rfl) ?_
   refine OW.nil ?_
   refine W.cond rfl (fun hq3 => ?_) (fun hq3 => ?_)
   ·have hq3d := of_decide_eq_true hq3
    refine Wr ?_
    refine Oy rfl (Yl.move rfl) ?_
    refine Oy rfl (Yl.shr 8 256 rfl rfl rfl (by decide) (by decide)) ?_
    refine Oy rfl (Yl.assign rfl) ?_
    refine OW.nil ?_
    refine W.region ?_
    refine Oy rfl (Yl.move rfl) ?_
    refine Oy rfl (Yl.addW (c := 56) rfl rfl rfl) ?_
    refine Oy rfl (Yl.assign rfl) ?_
    refine OW.nil ?_
    refine Wr ?_
    refine Oy rfl (Yl.move rfl) ?_
    refine Oy rfl (Yl.move rfl) ?_
    refine Oy rfl (Yl.conv Tryz.underlying83 Tryz.underlying5 rfl (u8_id (by omega) (by omega))) ?_
    refine Oy rfl (Yl.indexStr len8 Tryz.underlying9 rfl rfl (Int.toNat_of_nonneg (by omega)).symm (by omega) (by decide +kernel)) ?_
    refine Oy rfl (Yl.conv Tryz.underlying5 Tryz.underlying3 rfl (i64_len _)) ?_
    refine Oy rfl (Yl.add rfl rfl (len8_add _ _ (by omega) (by omega))) ?_
    refine Oy rfl (Yl.assign rfl) ?_
    refine OW.nil ?_
    refine W.ret ?_
    have e1 : ((x : Int) / 4294967296 / 65536 / 256).toNat = x / 72057594037927936 := by omega
    obtain ⟨g1, g2, g3⟩ := len_join x 56 72057594037927936 (by decide) (by omega) (by omega)
    have g4 := len8_le (x / 72057594037927936)
    refine Fin.mk (Rsl.one rfl rfl) ⟨_, 56 + len8 (x / 72057594037927936), rfl, ?_, g1, by omega, g2, g3, rfl⟩ (by repeat constructor) (by repeat constructor)
    rw [e1]; simp
   ·have hq3d := of_decide_eq_false hq3
    refine W.skip ?_
    refine Wr ?_
    refine Oy rfl (Yl.move rfl) ?_
    refine Oy rfl (Yl.move rfl) ?_
    refine Oy rfl (Yl.conv Tryz.underlying83 Tryz.underlying5 rfl (u8_id (by omega) (by omega))) ?_
    refine Oy rfl (Yl.indexStr len8 Tryz.underlying9 rfl rfl (Int.toNat_of_nonneg (by omega)).symm (by omega) (by decide +kernel)) ?_
    refine Oy rfl (Yl.conv Tryz.underlying5 Tryz.underlying3 rfl (i64_len _)) ?_
    refine Oy rfl (Yl.add rfl rfl (len8_add _ _ (by omega) (by omega))) ?_
    refine Oy rfl (Yl.assign rfl) ?_
    refine OW.nil ?_
    refine W.ret ?_
    have e1 : ((x : Int) / 4294967296 / 65536).toNat = x / 281474976710656 := by omega
    obtain ⟨g1, g2, g3⟩ := len_join x 48 281474976710656 (by decide) (by omega) (by omega)
    have g4 := len8_le (x / 281474976710656)
    refine Fin.mk (Rsl.one rfl rfl) ⟨_, 48 + len8 (x / 281474976710656), rfl, ?_, g1, by omega, g2, g3, rfl⟩ (by repeat constructor) (by repeat constructor)
    rw [e1]; simp
  ·have hq2d := of_decide_eq_false hq2
   refine W.skip ?_
   refine W.seq ?_
   refine Wr ?_
   refine Oy rfl (Yl.move rfl) ?_
   refine Oy rfl (Yl.geq rfl rfl) ?_
   refine OW.nil ?_
   refine W.cond rfl (fun hq4 => ?_) (fun hq4 => ?_)
   ·have hq4d := of_decide_eq_true hq4
    refine Wr ?_
    refine Oy rfl (Yl.move rfl) ?_
    refine Oy rfl (Yl.shr 8 256 rfl rfl rfl (by decide) (by decide)) ?_
    refine Oy rfl (Yl.assign rfl) ?_
    refine OW.nil ?_
    refine W.region ?_
    refine Oy rfl (Yl.move rfl) ?_
    refine Oy rfl (Yl.addW (c := 40) rfl rfl rfl) ?_
    refine Oy rfl (Yl.assign rfl) ?_
    refine OW.nil ?_
    refine Wr ?_
    refine Oy rfl (Yl.move rfl) ?_
    refine Oy rfl (Yl.move rfl) ?_
    refine Oy rfl (Yl.conv Tryz.underlying83 Tryz.underlying5 rfl (u8_id (by omega) (by omega))) ?_
    refine Oy rfl (Yl.indexStr len8 Tryz.underlying9 rfl rfl (Int.toNat_of_nonneg (by omega)).symm (by omega) (by decide +kernel)) ?_
    refine Oy rfl (Yl.conv Tryz.underlying5 Tryz.underlying3 rfl (i64_len _)) ?_
    refine Oy rfl (Yl.add rfl rfl (len8_add _ _ (by omega) (by omega))) ?_
    refine Oy rfl (Yl.assign rfl) ?_
    refine OW.nil ?_
    refine W.ret ?_
    have e1 : ((x : Int) / 4294967296 / 256).toNat = x / 1099511627776 := by omega
    obtain ⟨g1, g2, g3⟩ := len_join x 40 1099511627776 (by decide) (by omega) (by omega)
    have g4 := len8_le (x / 1099511627776)
    refine Fin.mk (Rsl.one rfl rfl) ⟨_, 40 + len8 (x / 1099511627776), rfl, ?_, g1, by omega, g2, g3, rfl⟩ (by repeat constructor) (by repeat constructor)
    rw [e1]; simp
   ·have hq4d := of_decide_eq_false hq4
    refine W.skip ?_
    refine Wr ?_
    refine Oy rfl (Yl.move rfl) ?_
    refine Oy rfl (Yl.move rfl) ?_
    refine Oy rfl (Yl.conv Tryz.underlying83 Tryz.underlying5 rfl (u8_id (by omega) (by omega))) ?_
    refine Oy rfl (Yl.indexStr len8 Tryz.underlying9 rfl rfl (Int.toNat_of_nonneg (by omega)).symm (by omega) (by decide +kernel)) ?_
    refine Oy rfl (Yl.conv Tryz.underlying5 Tryz.underlying3 rfl (i64_len _)) ?_
    refine Oy rfl (Yl.add rfl rfl (len8_add _ _ (by omega) (by omega))) ?_
    refine Oy rfl (Yl.assign rfl) ?_
    refine OW.nil ?_
    refine W.ret ?_
    have e1 : ((x : Int) / 4294967296).toNat = x / 4294967296 := by omega
    obtain ⟨g1, g2, g3⟩ := len_join x 32 4294967296 (by decide) (by omega) (by omega)
    have g4 := len8_le (x / 4294967296)
    refine Fin.mk (Rsl.one rfl rfl) ⟨_, 32 + len8 (x / 4294967296), rfl, ?_, g1, by omega, g2, g3, rfl⟩ (by repeat constructor) (by repeat constructor)
    rw [e1]; simp
 ·have hq1d := of_decide_eq_false hq1
  refine W.skip ?_
  refine W.seq ?_
  refine Wr ?_
  refine Oy rfl (Yl.move rfl) ?_
  refine Oy rfl (Yl.geq rfl rfl) ?_
  refine OW.nil ?_
  refine W.cond rfl (fun hq5 => ?_) (fun hq5 => ?_)
  ·have hq5d := of_decide_eq_true hq5
   refine Wr ?_
   refine Oy rfl (Yl.move rfl) ?_
   refine Oy rfl (Yl.shr 16 65536 rfl rfl rfl (by decide) (by decide)) ?_
   refine Oy rfl (Yl.assign rfl) ?_
   refine OW.nil ?_
   refine W.region ?_
   refine Oy rfl (Yl.move rfl) ?_
   refine Oy rfl (Yl.addW (c := 16) rfl rfl rfl) ?_
   refine Oy rfl (Yl.assign rfl) ?_
   refine OW.nil ?_
   refine W.seq ?_
   refine Wr ?_
   refine Oy rfl (Yl.move rfl) ?_
   refine Oy rfl (Yl.geq rfl rfl) ?_
   refine OW.nil ?_
   refine W.cond rfl (fun hq6 => ?_) (fun hq6 => ?_)
   ·have hq6d := of_decide_eq_true hq6
    refine Wr ?_
    refine Oy rfl (Yl.move rfl) ?_
    refine Oy rfl (Yl.shr 8 256 rfl rfl rfl (by decide) (by decide)) ?_
    refine Oy rfl (Yl.assign rfl) ?_
    refine OW.nil ?_
    refine W.region ?_
    refine Oy rfl (Yl.move rfl) ?_
    refine Oy rfl (Yl.addW (c := 24) rfl rfl rfl) ?_
    refine Oy rfl (Yl.assign rfl) ?_
    refine OW.nil ?_
    refine Wr ?_
    refine Oy rfl (Yl.move rfl) ?_
    refine Oy rfl (Yl.move rfl) ?_
    refine Oy rfl (Yl.conv Tryz.underlying83 Tryz.underlying5 rfl (u8_id (by omega) (by omega))) ?_
    refine Oy rfl (Yl.indexStr len8 Tryz.underlying9 rfl rfl (Int.toNat_of_nonneg (by omega)).symm (by omega) (by decide +kernel)) ?_
    refine Oy rfl (Yl.conv Tryz.underlying5 Tryz.underlying3 rfl (i64_len _)) ?_
    refine Oy rfl (Yl.add rfl rfl (len8_add _ _ (by omega) (by omega))) ?_
    refine Oy rfl (Yl.assign rfl) ?_
    refine OW.nil ?_
    refine W.ret ?_
    have e1 : ((x : Int) / 65536 / 256).toNat = x / 16777216 := by omega
    obtain ⟨g1, g2, g3⟩ := len_join x 24 16777216 (by decide) (by omega) (by omega)
    have g4 := len8_le (x / 16777216)
    refine Fin.mk (Rsl.one rfl rfl) ⟨_, 24 + len8 (x / 16777216), rfl, ?_, g1, by omega, g2, g3, rfl⟩ (by repeat constructor) (by repeat constructor)
    rw [e1]; simp
   ·have hq6d := of_decide_eq_false hq6
    refine W.skip ?_
    refine Wr ?_
    refine Oy rfl (Yl.move rfl) ?_
    refine Oy rfl (Yl.move rfl) ?_
    refine Oy rfl (Yl.conv Tryz.underlying83 Tryz.underlying5 rfl (u8_id (by omega) (by omega))) ?_
    refine Oy rfl (Yl.indexStr len8 Tryz.underlying9 rfl rfl (Int.toNat_of_nonneg (by omega)).symm (by omega) (by decide +kernel)) ?_
    refine Oy rfl (Yl.conv Tryz.underlying5 Tryz.underlying3 rfl (i64_len _)) ?_
    refine Oy rfl (Yl.add rfl rfl (len8_add _ _ (by omega) (by omega))) ?_
    refine Oy rfl (Yl.assign rfl) ?_
    refine OW.nil ?_
    refine W.ret ?_
    have e1 : ((x : Int) / 65536).toNat = x / 65536 := by omega
    obtain ⟨g1, g2, g3⟩ := len_join x 16 65536 (by decide) (by omega) (by omega)
    have g4 := len8_le (x / 65536)
    refine Fin.mk (Rsl.one rfl rfl) ⟨_, 16 + len8 (x / 65536), rfl, ?_, g1, by omega, g2, g3, rfl⟩ (by repeat constructor) (by repeat constructor)
    rw [e1]; simp
  ·have hq5d := of_decide_eq_false hq5
   refine W.skip ?_
   refine W.seq ?_
   refine Wr ?_
   refine Oy rfl (Yl.move rfl) ?_
   refine Oy rfl (Yl.geq rfl rfl) ?_
   refine OW.nil ?_
   refine W.cond rfl (fun hq7 => ?_) (fun hq7 => ?_)
   ·have hq7d := of_decide_eq_true hq7
    refine Wr ?_
    refine Oy rfl (Yl.move rfl) ?_
    refine Oy rfl (Yl.shr 8 256 rfl rfl rfl (by decide) (by decide)) ?_
    refine Oy rfl (Yl.assign rfl) ?_
    refine OW.nil ?_
    refine W.region ?_
    refine Oy rfl (Yl.move rfl) ?_
    refine Oy rfl (Yl.addW (c := 8) rfl rfl rfl) ?_
    refine Oy rfl (Yl.assign rfl) ?_
    refine OW.nil ?_
    refine Wr ?_
    refine Oy rfl (Yl.move rfl) ?_
    refine Oy rfl (Yl.move rfl) ?_
    refine Oy rfl (Yl.conv Tryz.underlying83 Tryz.underlying5 rfl (u8_id (by omega) (by omega))) ?_
    refine Oy rfl (Yl.indexStr len8 Tryz.underlying9 rfl rfl (Int.toNat_of_nonneg (by omega)).symm (by omega) (by decide +kernel)) ?_
    refine Oy rfl (Yl.conv Tryz.underlying5 Tryz.underlying3 rfl (i64_len _)) ?_
    refine Oy rfl (Yl.add rfl rfl (len8_add _ _ (by omega) (by omega))) ?_
    refine Oy rfl (Yl.assign rfl) ?_
    refine OW.nil ?_
    refine W.ret ?_
    have e1 : ((x : Int) / 256).toNat = x / 256 := by omega
    obtain ⟨g1, g2, g3⟩ := len_join x 8 256 (by decide) (by omega) (by omega)
    have g4 := len8_le (x / 256)
    refine Fin.mk (Rsl.one rfl rfl) ⟨_, 8 + len8 (x / 256), rfl, ?_, g1, by omega, g2, g3, rfl⟩ (by repeat constructor) (by repeat constructor)
    rw [e1]; simp
   ·have hq7d := of_decide_eq_false hq7
    refine W.skip ?_
    refine Wr ?_
    refine Oy rfl (Yl.move rfl) ?_
    refine Oy rfl (Yl.move rfl) ?_
    refine Oy rfl (Yl.conv Tryz.underlying83 Tryz.underlying5 rfl (u8_id (by omega) (by omega))) ?_
    refine Oy rfl (Yl.indexStr len8 Tryz.underlying9 rfl rfl (Int.toNat_of_nonneg (by omega)).symm (by omega) (by decide +kernel)) ?_
    refine Oy rfl (Yl.conv Tryz.underlying5 Tryz.underlying3 rfl (i64_len _)) ?_
    refine Oy rfl (Yl.add rfl rfl (len8_add _ _ (by omega) (by omega))) ?_
    refine Oy rfl (Yl.assign rfl) ?_
    refine OW.nil ?_
    refine W.ret ?_
    have e1 : (x : Int).toNat = x / 1 := by omega
    obtain ⟨g1, g2, g3⟩ := len_join x 0 1 (by decide) (by omega) (by omega)
    have g4 := len8_le (x / 1)
    refine Fin.mk (Rsl.one rfl rfl) ⟨_, 0 + len8 (x / 1), rfl, ?_, g1, by omega, g2, g3, rfl⟩ (by repeat constructor) (by repeat constructor)
    rw [e1]; simp

theorem lead_law (y m : Nat) (h0 : 0 < m) (h1 : m ≤ 64) (h2 : 2 ^ (m - 1) ≤ y) (h3 : y < 2 ^ m) :
  ∃ (p r : Int), (2 : Int) ^ (64 - m) = p ∧ (2 : Int) ^ (64 - (64 - m)) = r ∧ p * r = 18446744073709551616 ∧ 1 ≤ p ∧ 1 ≤ r ∧ 9223372036854775808 ≤ (y : Int) * p ∧ (y : Int) * p < 18446744073709551616 := by
 refine ⟨_, _, rfl, rfl, ?_, ?_, ?_, ?_, ?_⟩
 ·rw [← Int.pow_add, show 64 - m + (64 - (64 - m)) = 64 from by omega]; rfl
 ·have := Nat.two_pow_pos (64 - m); exact_mod_cast this
 ·have := Nat.two_pow_pos (64 - (64 - m)); exact_mod_cast this
 ·have a : 2 ^ (m - 1) * 2 ^ (64 - m) ≤ y * 2 ^ (64 - m) := Nat.mul_le_mul_right _ h2
  have e : ((2 ^ (64 - m) : Nat) : Int) = (2 : Int) ^ (64 - m) := Int.natCast_pow 2 _
  rw [← Nat.pow_add, show m - 1 + (64 - m) = 63 from by omega, show (2 : Nat) ^ 63 = 9223372036854775808 from rfl] at a
  rw [← e]
  generalize 2 ^ (64 - m) = Q at *
  rw [← Int.natCast_mul]; omega
 ·have a : y * 2 ^ (64 - m) < 2 ^ m * 2 ^ (64 - m) := Nat.mul_lt_mul_of_pos_right h3 (Nat.two_pow_pos _)
  have e : ((2 ^ (64 - m) : Nat) : Int) = (2 : Int) ^ (64 - m) := Int.natCast_pow 2 _
  rw [← Nat.pow_add, show m + (64 - m) = 64 from by omega, show (2 : Nat) ^ 64 = 18446744073709551616 from rfl] at a
  rw [← e]
  generalize 2 ^ (64 - m) = Q at *
  rw [← Int.natCast_mul]; omega

theorem c_Lead64 (y : Nat) (h0 : 0 < y) (h1 : y < 18446744073709551616) : FnC Tryz.prog 264 #[.int .u64 (y : Int)] [] (fun v L' => ∃ (m : Nat) (p r : Int), v = .int .i64 (m : Int) ∧ m ≤ 63 ∧ (2 : Int) ^ m = p ∧ (2 : Int) ^ (64 - m) = r ∧ p * r = 18446744073709551616 ∧ 1 ≤ p ∧ 1 ≤ r ∧ 9223372036854775808 ≤ (y : Int) * p ∧ (y : Int) * p < 18446744073709551616 ∧ L' = []) := by
 refine FnC.go (m := 6) Tryz.func264 Tryz.ntmps264 rfl (Nat.le_of_ble_eq_true rfl) (fun Lf => ?_)
 refine Wr ?_
 refine Oy rfl (Yl.assign rfl) ?_
 refine OW.nil ?_
 refine Wr ?_
 refine Oy rfl (Yl.move rfl) ?_
 refine OW.call (Wn.plain rfl) rfl rfl rfl (FnC.tri0 Tryz.call287 (c_Len64 _ (by omega) (by omega))) (by repeat constructor) ?_
 rintro _ _ ⟨_, ml, rfl, rfl, ml1, ml2, ml3, ml4, rfl⟩
 refine Oy rfl (Yl.sub rfl rfl (by omega)) ?_
 refine Oy rfl (Yl.assign rfl) ?_
 refine OW.nil ?_
 refine W.ret ?_
 obtain ⟨p, r, z1, z2, z3, z4, z5, z6, z7⟩ := lead_law y ml (by omega) ml2 ml3 ml4
 refine Fin.mk (Rsl.one rfl rfl) ⟨64 - ml, p, r, ?_, by omega, z1, z2, z3, z4, z5, z6, z7, rfl⟩ (by repeat constructor) (by repeat constructor)
 exact congrArg (Value.int .i64) (by omega)

theorem div_setup (x y p r : Int) (hx : 0 ≤ x) (hy : 0 < y) (hxy : x < y * 18446744073709551616) (hp : 1 ≤ p) (hr : 1 ≤ r) (hpr : p * r = 18446744073709551616) :
  ∃ H U L Y : Int, x / 18446744073709551616 * p = H ∧ H + x % 18446744073709551616 / r = U ∧ x % 18446744073709551616 * p % 18446744073709551616 = L ∧ y * p = Y ∧ U * 18446744073709551616 + L = x * p ∧ U < Y ∧ 0 ≤ H ∧ 0 ≤ x % 18446744073709551616 / r ∧ x % 18446744073709551616 / r < p ∧ 0 ≤ L ∧ L < 18446744073709551616 := by
 refine ⟨_, _, _, _, rfl, rfl, rfl, rfl, ?_⟩
 have l0 : 0 ≤ x % 18446744073709551616 := by omega
 have l1 : x % 18446744073709551616 < 18446744073709551616 := by omega
 have l2 : x = x / 18446744073709551616 * 18446744073709551616 + x % 18446744073709551616 := by omega
 have h0 : 0 ≤ x / 18446744073709551616 := by omega
 generalize x / 18446744073709551616 = hi at *
 generalize x % 18446744073709551616 = lo at *
 have d := Int.mul_ediv_add_emod lo r
 have d0 := Int.emod_nonneg lo (show r ≠ 0 by omega)
 have d1 := Int.emod_lt_of_pos lo (show 0 < r by omega)
 have q0 : 0 ≤ lo / r := Int.ediv_nonneg l0 (by omega)
 have e1 : lo * p = 18446744073709551616 * (lo / r) + lo % r * p := by
  rw [← hpr, Int.mul_assoc]
  conv => lhs; rw [← d]
  rw [Int.add_mul, Int.mul_comm _ p]
 have e2 : lo % r * p < 18446744073709551616 := by
  have : lo % r * p ≤ (r - 1) * p := Int.mul_le_mul_of_nonneg_right (by omega) (by omega)
  rw [Int.sub_mul, Int.mul_comm r p, hpr] at this
  omega
 have e3 : 0 ≤ lo % r * p := Int.mul_nonneg d0 (by omega)
 have eL : lo * p % 18446744073709551616 = lo % r * p := by omega
 have eX : (hi * p + lo / r) * 18446744073709551616 + lo % r * p = x * p := by
  rw [l2, Int.add_mul, Int.add_mul, e1, Int.mul_assoc, Int.mul_comm p, ← Int.mul_assoc]
  omega
 have hb : lo / r < p := Int.ediv_lt_of_lt_mul (by omega) (by rw [hpr]; exact l1)
 refine ⟨by rw [eL]; exact eX, ?_, Int.mul_nonneg h0 (by omega), q0, hb, by omega, by omega⟩
 have f1 : x * p ≤ (y * 18446744073709551616 - 1) * p := Int.mul_le_mul_of_nonneg_right (by omega) (by omega)
 rw [Int.sub_mul, Int.mul_assoc, Int.mul_comm 18446744073709551616 p, ← Int.mul_assoc] at f1
 omega
theorem or_law (H b p : Int) (hi : Int) (k : Nat) (hk : k < 64) (hp : (2 : Int) ^ k = p) (hH : hi * p = H) (h0 : 0 ≤ hi) (hH2 : 0 ≤ H) (hH3 : H < 18446744073709551616) (hb : 0 ≤ b) (hb2 : b < p) : Go.bits .or .u64 H b = H + b := by
 obtain ⟨a, rfl⟩ := Int.eq_ofNat_of_zero_le hH2
 obtain ⟨b, rfl⟩ := Int.eq_ofNat_of_zero_le hb
 obtain ⟨c, rfl⟩ := Int.eq_ofNat_of_zero_le h0
 have e : ((2 ^ k : Nat) : Int) = p := by rw [← hp]; simp
 have h1 := or_apart a b k hk (by omega) (by
  have : a = c * 2 ^ k := by
   have h : ((c * 2 ^ k : Nat) : Int) = (a : Int) := by rw [← hH, ← e]; simp
   omega
  rw [this]; exact Nat.mul_mod_left _ _) (by omega)
 rw [h1]; simp
/-- all that the two digits say -/
theorem div_end {x y p Y U L u1 u0 t1 R1 t0 : Int} (hy : 0 < y) (hp : 1 ≤ p) (hY : y * p = Y) (hX : U * 18446744073709551616 + L = x * p) (hL : L = u1 * 4294967296 + u0) (hY0 : 0 < Y)
  (h1 : t1 = (U * 4294967296 + u1) / Y) (hR : R1 = (U * 4294967296 + u1) % Y) (h0 : t0 = (R1 * 4294967296 + u0) / Y) :
  t1 * 4294967296 + t0 = x / y ∧ ((R1 * 4294967296 + u0) % Y) / p = x % y := by
 have a := Int.mul_ediv_add_emod (U * 4294967296 + u1) Y
 rw [← h1, ← hR, Int.mul_comm] at a
 have e := dig_two (a := U * 4294967296 + u1) (u0 := u0) hY0 a.symm h0
 have eX : (U * 4294967296 + u1) * 4294967296 + u0 = x * p := by omega
 rw [eX, ← hY, Int.mul_ediv_mul_of_pos_left _ _ (show 0 < p by omega), Int.mul_comm x p, Int.mul_comm y p, Int.mul_emod_mul_of_pos _ _ (show 0 < p by omega)] at e
 refine ⟨e.1.symm, ?_⟩
 rw [← hY, Int.mul_comm y p, ← e.2]
 exact Int.mul_ediv_cancel_left _ (by omega)


theorem half_mulD {a b : Int} (h1 : 0 ≤ a) (h2 : a < 4294967296) (h3 : 0 ≤ b) (h4 : b < 4294967296) : 0 ≤ a * b ∧ a * b < 18446744073709551616 := by
 refine ⟨Int.mul_nonneg h1 h3, ?_⟩
 have := Int.mul_le_mul (show a ≤ 4294967295 by omega) (show b ≤ 4294967295 by omega) h3 (by decide)
 omega
theorem div_u64 {a b : Int} (h0 : 0 ≤ a) (h1 : a < 18446744073709551616) (hb : 0 < b) : IntKind.u64.wrap (a.tdiv b) = a / b := by
 rw [Int.tdiv_eq_ediv_of_nonneg h0]
 have h2 := Int.ediv_le_self b h0
 exact k64_id (Int.ediv_nonneg h0 (by omega)) (by omega)

theorem c_Div64 (x y : Int) (hx : 0 ≤ x) (hy : 0 < y) (hy2 : y < 18446744073709551616) (hxy : x < y * 18446744073709551616) : FnV Tryz.prog 213 #[.int .u64 (x / 18446744073709551616), .int .u64 (x % 18446744073709551616), .int .u64 y] [] (.tuple #[.int .u64 (x / y), .int .u64 (x % y)]) := by
 refine FnC.go (m := 135) Tryz.func213 Tryz.ntmps213 rfl (Nat.le_of_ble_eq_true rfl) (fun Lf => ?_)
 have hhi : x / 18446744073709551616 < y := Int.ediv_lt_of_lt_mul (by omega) hxy
 refine Wr ?_
 refine Oy rfl (Yl.assign rfl) ?_
 refine Oy rfl (Yl.assign rfl) ?_
 refine OW.nil ?_
 refine W.seq ?_
 refine Wr ?_
 refine Oy rfl (Yl.move rfl) ?_
 refine Oy rfl (Yl.eql rfl rfl) ?_
 refine OW.nil ?_
 refine W.cond rfl (fun hq1 => ?_) (fun hq1 => ?_)
 ·have hq1d := of_decide_eq_true hq1
  exfalso; omega
 ·have hq1d := of_decide_eq_false hq1
  refine W.skip ?_
  refine W.seq ?_
  refine Wr ?_
  refine Oy rfl (Yl.move rfl) ?_
  refine Oy rfl (Yl.move rfl) ?_
  refine Oy rfl (Yl.leq rfl rfl) ?_
  refine OW.nil ?_
  refine W.cond rfl (fun hq2 => ?_) (fun hq2 => ?_)
  ·have hq2d := of_decide_eq_true hq2
   exfalso; omega
  ·have hq2d := of_decide_eq_false hq2
   refine W.skip ?_
   refine W.seq ?_
   refine Wr ?_
   refine Oy rfl (Yl.move rfl) ?_
   refine Oy rfl (Yl.eql rfl rfl) ?_
   refine OW.nil ?_
   refine W.cond rfl (fun hq3 => ?_) (fun hq3 => ?_)
   ·have hq3d := of_decide_eq_true hq3
    refine W.seq ?_
    refine W.draw mixed ?_
    refine Aq (i := 0) rfl (Wn.plain rfl) rfl (fun _ => Yl.move rfl) ?_
    refine Aq (i := 1) rfl (Wn.plain rfl) rfl (fun _ => Yl.move rfl) ?_
    refine Aq (i := 2) rfl (Wn.plain rfl) rfl (fun _ => Yl.quo rfl rfl (c := x / y) (by omega) (by rw [show x % 18446744073709551616 = x by omega]; exact div_u64 hx (by omega) hy)) ?_
    refine Aq (i := 3) rfl (Wn.plain rfl) rfl (fun _ => Yl.move rfl) ?_
    refine Aq (i := 4) rfl (Wn.plain rfl) rfl (fun _ => Yl.move rfl) ?_
    refine Aq (i := 5) rfl (Wn.plain rfl) rfl (fun _ => Yl.rem rfl rfl (c := x % y) (by omega) (by rw [show x % 18446744073709551616 = x by omega]; exact Int.tmod_eq_emod_of_nonneg hx)) ?_
    refine Aq (i := 6) rfl (Wn.plain rfl) rfl (fun _ => Yl.assign rfl) ?_
    refine Aq (i := 7) rfl (Wn.plain rfl) rfl (fun _ => Yl.assign rfl) ?_
    refine AW.done (by kernel_rfl) ?_
    refine W.ret ?_
    refine Fin.mk (Rsl.two rfl rfl rfl) ⟨?_, rfl⟩ (by repeat constructor) (by repeat constructor)
    rfl
   ·have hq3d := of_decide_eq_false hq3
    refine W.skip ?_
    refine Wr ?_
    refine Oy rfl (Yl.move rfl) ?_
    refine OW.call (Wn.plain rfl) rfl rfl rfl (FnC.tri0 Tryz.call264 (by have h := c_Lead64 y.toNat (by omega) (by omega); rw [Int.toNat_of_nonneg (by omega)] at h; exact h)) (by repeat constructor) ?_
    rintro _ _ ⟨m, p, r, rfl, m1, m2, m3, m4, m5, m6, m7, m8, rfl⟩
    obtain ⟨H, U, L, Y, e1, e2, e3, e4, e5, e6, e7, e8, e9, e10, e11⟩ := div_setup x y p r hx hy hxy m5 m6 m4
    rw [e4] at m7 m8
    have eY : Y / 4294967296 * 4294967296 + Y % 4294967296 = Y := by omega
    have g1 := dig_rest (u := U) (u0 := L / 4294967296) (y := Y) (t := ((U * 4294967296 + L / 4294967296) / Y)) (by omega) rfl
    obtain ⟨g1, g2, g3⟩ := g1
    have g4 := dig_rest (u := ((U * 4294967296 + L / 4294967296) % Y)) (u0 := L % 4294967296) (y := Y) (t := ((((U * 4294967296 + L / 4294967296) % Y) * 4294967296 + L % 4294967296) / Y)) (by omega) rfl
    obtain ⟨g4, g5, g6⟩ := g4
    have g7 := dig_top (u := U) (u0 := L / 4294967296) (y1 := Y / 4294967296) (y0 := Y % 4294967296) (by omega) (by omega) (by omega) (by omega) rfl
    have g8 := dig_top (u := ((U * 4294967296 + L / 4294967296) % Y)) (u0 := L % 4294967296) (y1 := Y / 4294967296) (y0 := Y % 4294967296) (by omega) (by omega) (by omega) (by omega) rfl
    rw [eY] at g7 g8
    have ka := dig_init (u := U) (u0 := L / 4294967296) (y1 := (Y / 4294967296)) (y0 := (Y % 4294967296)) (t := ((U * 4294967296 + L / 4294967296) / Y)) (by omega) (by omega) (by omega) (by omega) (by omega) (by omega) (by omega) (by omega) (by rw [eY])
    have ka1 := ka.1.2.1
    have ka2 := Int.mul_nonneg ka.1.2.2.2.2 (show 0 ≤ (Y / 4294967296) by omega)
    have kb := dig_init (u := ((U * 4294967296 + L / 4294967296) % Y)) (u0 := L % 4294967296) (y1 := (Y / 4294967296)) (y0 := (Y % 4294967296)) (t := ((((U * 4294967296 + L / 4294967296) % Y) * 4294967296 + L % 4294967296) / Y)) (by omega) (by omega) (by omega) (by omega) (by omega) (by omega) (by omega) (by omega) (by rw [eY])
    have kb1 := kb.1.2.1
    have kb2 := Int.mul_nonneg kb.1.2.2.2.2 (show 0 ≤ (Y / 4294967296) by omega)
    have g9 : 0 ≤ ((U * 4294967296 + L / 4294967296) / Y) := Int.ediv_nonneg (by omega) (by omega)
    have g10 : 0 ≤ ((((U * 4294967296 + L / 4294967296) % Y) * 4294967296 + L % 4294967296) / Y) := Int.ediv_nonneg (by omega) (by omega)
    obtain ⟨g11, g12⟩ := div_end hy m5 e4 e5 (show L = L / 4294967296 * 4294967296 + L % 4294967296 by omega) (by omega) (t1 := ((U * 4294967296 + L / 4294967296) / Y)) (R1 := ((U * 4294967296 + L / 4294967296) % Y)) (t0 := ((((U * 4294967296 + L / 4294967296) % Y) * 4294967296 + L % 4294967296) / Y)) rfl rfl rfl
    refine Oy rfl (Yl.conv Tryz.underlying3 Tryz.underlying155 rfl (k64_id (by omega) (by omega))) ?_
    refine Oy rfl (Yl.assign rfl) ?_
    refine OW.nil ?_
    refine Wr ?_
    refine Oy rfl (Yl.move rfl) ?_
    refine Oy rfl (Yl.move rfl) ?_
    refine Oy rfl (Yl.shl m p rfl rfl rfl (by show m ≤ 64; omega) m2 (c := Y) (by rw [e4]; exact k64_id (by omega) (by omega))) ?_
    refine Oy rfl (Yl.assign rfl) ?_
    refine OW.nil ?_
    refine Wr ?_
    refine Oy rfl (Yl.move rfl) ?_
    refine Oy rfl (Yl.shr 32 4294967296 rfl rfl rfl (by decide) (by decide)) ?_
    refine Oy rfl (Yl.assign rfl) ?_
    refine OW.nil ?_
    refine Wr ?_
    refine Oy rfl (Yl.move rfl) ?_
    refine Oy rfl (Yl.bits (op := .and) rfl rfl rfl (andm32 _ (by omega) (by omega))) ?_
    refine Oy rfl (Yl.assign rfl) ?_
    refine OW.nil ?_
    refine Wr ?_
    refine Oy rfl (Yl.move rfl) ?_
    refine Oy rfl (Yl.move rfl) ?_
    refine Oy rfl (Yl.shl m p rfl rfl rfl (by show m ≤ 64; omega) m2 (c := H) (by rw [e1]; exact k64_id (by omega) (by omega))) ?_
    refine Oy rfl (Yl.move rfl) ?_
    refine Oy rfl (Yl.move rfl) ?_
    refine Oy rfl (Yl.subW rfl rfl (c := ((64 - m : Nat) : Int)) (by rw [IntKind.wrap_u64]; omega)) ?_
    refine Oy rfl (Yl.shr (64 - m) r rfl rfl rfl (by show 64 - m ≤ 64; omega) m3) ?_
    refine Oy rfl (Yl.bits (op := .or) rfl rfl rfl (c := U) ((or_law _ _ p _ m (by omega) m2 e1 (by omega) e7 (by omega) e8 e9).trans e2)) ?_
    refine Oy rfl (Yl.assign rfl) ?_
    refine OW.nil ?_
    refine Wr ?_
    refine Oy rfl (Yl.move rfl) ?_
    refine Oy rfl (Yl.move rfl) ?_
    refine Oy rfl (Yl.shl m p rfl rfl rfl (by show m ≤ 64; omega) m2 (c := L) (by rw [IntKind.wrap_u64]; exact e3)) ?_
    refine Oy rfl (Yl.assign rfl) ?_
    refine OW.nil ?_
    refine Wr ?_
    refine Oy rfl (Yl.move rfl) ?_
    refine Oy rfl (Yl.shr 32 4294967296 rfl rfl rfl (by decide) (by decide)) ?_
    refine Oy rfl (Yl.assign rfl) ?_
    refine OW.nil ?_
    refine Wr ?_
    refine Oy rfl (Yl.move rfl) ?_
    refine Oy rfl (Yl.bits (op := .and) rfl rfl rfl (andm32 _ (by omega) (by omega))) ?_
    refine Oy rfl (Yl.assign rfl) ?_
    refine OW.nil ?_
    refine Wr ?_
    refine Oy rfl (Yl.move rfl) ?_
    refine Oy rfl (Yl.move rfl) ?_
    refine Oy rfl (Yl.quo rfl rfl (by omega) (div_u64 (by omega) (by omega) (by omega))) ?_
    refine Oy rfl (Yl.assign rfl) ?_
    refine OW.nil ?_
    refine Wr ?_
    refine Oy rfl (Yl.move rfl) ?_
    refine Oy rfl (Yl.move rfl) ?_
    refine Oy rfl (Yl.move rfl) ?_
    refine Oy rfl (Yl.mulW rfl rfl (c := U / (Y / 4294967296) * (Y / 4294967296)) (k64_id (by omega) (by omega))) ?_
    refine Oy rfl (Yl.subW rfl rfl (k64_id (by omega) (by omega))) ?_
    refine Oy rfl (Yl.assign rfl) ?_
    refine OW.nil ?_
    refine W.seq ?_
    refine W.block ?_
    refine W.loopS (X := (Int) × (Int)) (fun (x : (Int) × (Int)) => match x with | (q, r) => (KInv U (Y / 4294967296) ((U * 4294967296 + L / 4294967296) / Y) q r ∧ r < 4294967296 : Prop)) (fun (x : (Int) × (Int)) => match x with | (q, r) => ([(15, .int .u64 q), (16, .int .u64 r)] : Env)) (fun (x : (Int) × (Int)) => match x with | (q, r) => ([] : List Res)) (fun (x : (Int) × (Int)) => match x with | (q, r) => ((q - ((U * 4294967296 + L / 4294967296) / Y)).toNat : Nat)) (U / (Y / 4294967296), U - U / (Y / 4294967296) * (Y / 4294967296)) [(2, _), (6, _), (7, _), (8, _), (9, _), (10, _), (11, _), (13, _), (14, _)] (by exact ⟨ka.1, by have := ka.2; omega⟩) (Le.cons rfl (Le.cons rfl (Le.cons rfl (Le.cons rfl (Le.cons rfl (Le.cons rfl (Le.cons rfl (Le.cons rfl (Le.cons rfl (Le.cons rfl (Le.cons rfl (Le.nil _)))))))))))) (by repeat constructor) ?_
    rintro ⟨q, r⟩ hinv
    show W _ _ _ _ _ _ ([(15, .int .u64 q), (16, .int .u64 r)] ++ _) _ ([] ++ _)
    obtain ⟨ia, iar⟩ := hinv
    have iax := ia
    obtain ⟨ja1, ja2, ja3, ja4, ja5⟩ := iax
    refine W.seq ?_
    refine Wr ?_
    refine Oy rfl (Yl.move rfl) ?_
    refine Oy rfl (Yl.geq rfl rfl) ?_
    refine Oy rfl (Yl.move rfl) ?_
    refine OW.split (t := 69) rfl (fun hq4 => ?_) (fun hq4 => ?_)
    ·have hq4d := of_decide_eq_true hq4
     have sta := dig_step (y0 := (Y % 4294967296)) (u0 := L / 4294967296) (t := ((U * 4294967296 + L / 4294967296) / Y)) (by omega) (by omega) (by rw [eY]) (by omega) (by omega) ia (by omega)
     have sta5 := sta.1.2.2.2.2
     refine OW.not (Wn.not rfl rfl rfl hq4) rfl ?_
     refine OW.not (Wn.not rfl rfl rfl hq4) rfl ?_
     refine OW.not (Wn.not rfl rfl rfl hq4) rfl ?_
     refine OW.not (Wn.not rfl rfl rfl hq4) rfl ?_
     refine OW.not (Wn.not rfl rfl rfl hq4) rfl ?_
     refine OW.not (Wn.not rfl rfl rfl hq4) rfl ?_
     refine OW.not (Wn.not rfl rfl rfl hq4) rfl ?_
     refine OW.not (Wn.not rfl rfl rfl hq4) rfl ?_
     refine Oy rfl (Yl.pick_true rfl hq4 rfl) ?_
     refine OW.nil ?_
     refine W.cond_true rfl ?_
     refine W.skip ?_
     refine W.block ?_
     refine Wr ?_
     refine Oy rfl (Yl.move rfl) ?_
     refine Oy rfl (Yl.subW rfl rfl (k64_id (by omega) (by omega))) ?_
     refine Oy rfl (Yl.assign rfl) ?_
     refine OW.nil ?_
     refine Wr ?_
     refine Oy rfl (Yl.move rfl) ?_
     refine Oy rfl (Yl.move rfl) ?_
     refine Oy rfl (Yl.addW rfl rfl (k64_id (by omega) (by omega))) ?_
     refine Oy rfl (Yl.assign rfl) ?_
     refine OW.nil ?_
     refine Wr ?_
     refine Oy rfl (Yl.move rfl) ?_
     refine Oy rfl (Yl.geq rfl rfl) ?_
     refine OW.nil ?_
     refine W.cond rfl (fun hq5 => ?_) (fun hq5 => ?_)
     ·have hq5d := of_decide_eq_true hq5
      have hEa : q - 1 = ((U * 4294967296 + L / 4294967296) / Y) := dig_break (y0 := (Y % 4294967296)) (u0 := L / 4294967296) (by omega) (by omega) (by omega) (by omega) (by rw [eY]) sta.1 sta.2 (by omega)
      refine W.exit ?_
      refine Wr ?_
      refine Oy rfl (Yl.move rfl) ?_
      refine Oy rfl (Yl.mulW rfl rfl (IntKind.wrap_u64 _)) ?_
      refine Oy rfl (Yl.move rfl) ?_
      refine Oy rfl (Yl.addW rfl rfl (c := (U * 4294967296 + L / 4294967296) % 18446744073709551616) (by rw [IntKind.wrap_u64]; omega)) ?_
      refine Oy rfl (Yl.move rfl) ?_
      refine Oy rfl (Yl.move rfl) ?_
      refine Oy rfl (Yl.mulW rfl rfl (c := ((U * 4294967296 + L / 4294967296) / Y) * Y % 18446744073709551616) (by rw [hEa]; exact IntKind.wrap_u64 _)) ?_
      refine Oy rfl (Yl.subW rfl rfl (c := ((U * 4294967296 + L / 4294967296) % Y)) (by rw [IntKind.wrap_u64]; omega)) ?_
      refine Oy rfl (Yl.assign rfl) ?_
      refine OW.nil ?_
      refine Wr ?_
      refine Oy rfl (Yl.move rfl) ?_
      refine Oy rfl (Yl.move rfl) ?_
      refine Oy rfl (Yl.quo rfl rfl (by omega) (div_u64 (by omega) (by omega) (by omega))) ?_
      refine Oy rfl (Yl.assign rfl) ?_
      refine OW.nil ?_
      refine Wr ?_
      refine Oy rfl (Yl.move rfl) ?_
      refine Oy rfl (Yl.move rfl) ?_
      refine Oy rfl (Yl.move rfl) ?_
      refine Oy rfl (Yl.mulW rfl rfl (c := ((U * 4294967296 + L / 4294967296) % Y) / (Y / 4294967296) * (Y / 4294967296)) (k64_id (by omega) (by omega))) ?_
      refine Oy rfl (Yl.subW rfl rfl (k64_id (by omega) (by omega))) ?_
      refine Oy rfl (Yl.assign rfl) ?_
      refine OW.nil ?_
      refine W.seq ?_
      refine W.block ?_
      refine W.loopS (X := (Int) × (Int)) (fun (x : (Int) × (Int)) => match x with | (q2, r2) => (KInv ((U * 4294967296 + L / 4294967296) % Y) (Y / 4294967296) ((((U * 4294967296 + L / 4294967296) % Y) * 4294967296 + L % 4294967296) / Y) q2 r2 ∧ r2 < 4294967296 : Prop)) (fun (x : (Int) × (Int)) => match x with | (q2, r2) => ([(18, .int .u64 q2), (16, .int .u64 r2)] : Env)) (fun (x : (Int) × (Int)) => match x with | (q2, r2) => ([] : List Res)) (fun (x : (Int) × (Int)) => match x with | (q2, r2) => ((q2 - ((((U * 4294967296 + L / 4294967296) % Y) * 4294967296 + L % 4294967296) / Y)).toNat : Nat)) (((U * 4294967296 + L / 4294967296) % Y) / (Y / 4294967296), ((U * 4294967296 + L / 4294967296) % Y) - ((U * 4294967296 + L / 4294967296) % Y) / (Y / 4294967296) * (Y / 4294967296)) [(2, _), (6, _), (7, _), (8, _), (9, _), (10, _), (14, _), (15, _), (17, _)] (by exact ⟨kb.1, by have := kb.2; omega⟩) (Le.cons rfl (Le.cons rfl (Le.cons rfl (Le.cons rfl (Le.cons rfl (Le.cons rfl (Le.cons rfl (Le.cons rfl (Le.cons rfl (Le.cons rfl (Le.cons rfl (Le.nil _)))))))))))) (by repeat constructor) ?_
      rintro ⟨q2, r2⟩ hinv
      show W _ _ _ _ _ _ ([(18, .int .u64 q2), (16, .int .u64 r2)] ++ _) _ ([] ++ _)
      obtain ⟨ib, ibr⟩ := hinv
      have ibx := ib
      obtain ⟨jb1, jb2, jb3, jb4, jb5⟩ := ibx
      refine W.seq ?_
      refine Wr ?_
      refine Oy rfl (Yl.move rfl) ?_
      refine Oy rfl (Yl.geq rfl rfl) ?_
      refine Oy rfl (Yl.move rfl) ?_
      refine OW.split (t := 104) rfl (fun hq6 => ?_) (fun hq6 => ?_)
      ·have hq6d := of_decide_eq_true hq6
       have stb := dig_step (y0 := (Y % 4294967296)) (u0 := L % 4294967296) (t := ((((U * 4294967296 + L / 4294967296) % Y) * 4294967296 + L % 4294967296) / Y)) (by omega) (by omega) (by rw [eY]) (by omega) (by omega) ib (by omega)
       have stb5 := stb.1.2.2.2.2
       refine OW.not (Wn.not rfl rfl rfl hq6) rfl ?_
       refine OW.not (Wn.not rfl rfl rfl hq6) rfl ?_
       refine OW.not (Wn.not rfl rfl rfl hq6) rfl ?_
       refine OW.not (Wn.not rfl rfl rfl hq6) rfl ?_
       refine OW.not (Wn.not rfl rfl rfl hq6) rfl ?_
       refine OW.not (Wn.not rfl rfl rfl hq6) rfl ?_
       refine OW.not (Wn.not rfl rfl rfl hq6) rfl ?_
       refine OW.not (Wn.not rfl rfl rfl hq6) rfl ?_
       refine Oy rfl (Yl.pick_true rfl hq6 rfl) ?_
       refine OW.nil ?_
       refine W.cond_true rfl ?_
       refine W.skip ?_
       refine W.block ?_
       refine Wr ?_
       refine Oy rfl (Yl.move rfl) ?_
       refine Oy rfl (Yl.subW rfl rfl (k64_id (by omega) (by omega))) ?_
       refine Oy rfl (Yl.assign rfl) ?_
       refine OW.nil ?_
       refine Wr ?_
       refine Oy rfl (Yl.move rfl) ?_
       refine Oy rfl (Yl.move rfl) ?_
       refine Oy rfl (Yl.addW rfl rfl (k64_id (by omega) (by omega))) ?_
       refine Oy rfl (Yl.assign rfl) ?_
       refine OW.nil ?_
       refine Wr ?_
       refine Oy rfl (Yl.move rfl) ?_
       refine Oy rfl (Yl.geq rfl rfl) ?_
       refine OW.nil ?_
       refine W.cond rfl (fun hq7 => ?_) (fun hq7 => ?_)
       ·have hq7d := of_decide_eq_true hq7
        have hEb : q2 - 1 = ((((U * 4294967296 + L / 4294967296) % Y) * 4294967296 + L % 4294967296) / Y) := dig_break (y0 := (Y % 4294967296)) (u0 := L % 4294967296) (by omega) (by omega) (by omega) (by omega) (by rw [eY]) stb.1 stb.2 (by omega)
        refine W.exit ?_
        refine Wr ?_
        refine Oy rfl (Yl.move rfl) ?_
        refine Oy rfl (Yl.mulW rfl rfl (c := ((U * 4294967296 + L / 4294967296) / Y) * 4294967296) (by rw [hEa]; exact k64_id (by omega) (by omega))) ?_
        refine Oy rfl (Yl.move rfl) ?_
        refine Oy rfl (Yl.addW rfl rfl (c := x / y) (by rw [hEb, ← g11]; exact k64_id (by omega) (by omega))) ?_
        refine Oy rfl (Yl.move rfl) ?_
        refine Oy rfl (Yl.mulW rfl rfl (IntKind.wrap_u64 _)) ?_
        refine Oy rfl (Yl.move rfl) ?_
        refine Oy rfl (Yl.addW rfl rfl (c := (((U * 4294967296 + L / 4294967296) % Y) * 4294967296 + L % 4294967296) % 18446744073709551616) (by rw [IntKind.wrap_u64]; omega)) ?_
        refine Oy rfl (Yl.move rfl) ?_
        refine Oy rfl (Yl.move rfl) ?_
        refine Oy rfl (Yl.mulW rfl rfl (c := ((((U * 4294967296 + L / 4294967296) % Y) * 4294967296 + L % 4294967296) / Y) * Y % 18446744073709551616) (by rw [hEb]; exact IntKind.wrap_u64 _)) ?_
        refine Oy rfl (Yl.subW rfl rfl (c := ((((U * 4294967296 + L / 4294967296) % Y) * 4294967296 + L % 4294967296) % Y)) (by rw [IntKind.wrap_u64]; omega)) ?_
        refine Oy rfl (Yl.move rfl) ?_
        refine Oy rfl (Yl.shr m p rfl rfl rfl (by show m ≤ 64; omega) m2) ?_
        refine Oy rfl (Yl.assign rfl) ?_
        refine Oy rfl (Yl.assign rfl) ?_
        refine OW.nil ?_
        refine W.ret ?_
        refine Fin.mk (Rsl.two rfl rfl rfl) ⟨?_, rfl⟩ (by repeat constructor) (by repeat constructor)
        rw [g12]
       ·have hq7d := of_decide_eq_false hq7
        refine W.skip ?_
        refine ⟨(q2 - 1, r2 + (Y / 4294967296)), _, ?_, (Le.cons rfl (Le.cons rfl (Le.cons rfl (Le.cons rfl (Le.cons rfl (Le.cons rfl (Le.cons rfl (Le.cons rfl (Le.cons rfl (Le.cons rfl (Le.cons rfl (Le.nil _)))))))))))), rfl, by repeat constructor, by repeat constructor, by have := stb.1.2.2.1; dsimp only; omega⟩
        exact ⟨stb.1, by omega⟩
      ·have hq6d := of_decide_eq_false hq6
       refine OW.yl (Wn.run rfl rfl rfl hq6) rfl (Yl.move rfl) ?_
       refine OW.yl (Wn.run rfl rfl rfl hq6) rfl (Yl.move rfl) ?_
       refine OW.yl (Wn.run rfl rfl rfl hq6) rfl (Yl.mulW rfl rfl (by have hh := half_mulD (a := q2) (b := (Y % 4294967296)) (by omega) (by omega) (by omega) (by omega); exact k64_id hh.1 hh.2)) ?_
       refine OW.yl (Wn.run rfl rfl rfl hq6) rfl (Yl.move rfl) ?_
       refine OW.yl (Wn.run rfl rfl rfl hq6) rfl (Yl.mulW rfl rfl (k64_id (by omega) (by omega))) ?_
       refine OW.yl (Wn.run rfl rfl rfl hq6) rfl (Yl.move rfl) ?_
       refine OW.yl (Wn.run rfl rfl rfl hq6) rfl (Yl.addW rfl rfl (k64_id (by omega) (by omega))) ?_
       refine OW.yl (Wn.run rfl rfl rfl hq6) rfl (Yl.gtr rfl rfl) ?_
       refine Oy rfl (Yl.pick_false rfl hq6 rfl) ?_
       refine OW.nil ?_
       refine W.cond rfl (fun hq8 => ?_) (fun hq8 => ?_)
       ·have hq8d := of_decide_eq_true hq8
        have stb := dig_step (y0 := (Y % 4294967296)) (u0 := L % 4294967296) (t := ((((U * 4294967296 + L / 4294967296) % Y) * 4294967296 + L % 4294967296) / Y)) (by omega) (by omega) (by rw [eY]) (by omega) (by omega) ib (by omega)
        have stb5 := stb.1.2.2.2.2
        refine W.skip ?_
        refine W.block ?_
        refine Wr ?_
        refine Oy rfl (Yl.move rfl) ?_
        refine Oy rfl (Yl.subW rfl rfl (k64_id (by omega) (by omega))) ?_
        refine Oy rfl (Yl.assign rfl) ?_
        refine OW.nil ?_
        refine Wr ?_
        refine Oy rfl (Yl.move rfl) ?_
        refine Oy rfl (Yl.move rfl) ?_
        refine Oy rfl (Yl.addW rfl rfl (k64_id (by omega) (by omega))) ?_
        refine Oy rfl (Yl.assign rfl) ?_
        refine OW.nil ?_
        refine Wr ?_
        refine Oy rfl (Yl.move rfl) ?_
        refine Oy rfl (Yl.geq rfl rfl) ?_
        refine OW.nil ?_
        refine W.cond rfl (fun hq9 => ?_) (fun hq9 => ?_)
        ·have hq9d := of_decide_eq_true hq9
         have hEb : q2 - 1 = ((((U * 4294967296 + L / 4294967296) % Y) * 4294967296 + L % 4294967296) / Y) := dig_break (y0 := (Y % 4294967296)) (u0 := L % 4294967296) (by omega) (by omega) (by omega) (by omega) (by rw [eY]) stb.1 stb.2 (by omega)
         refine W.exit ?_
         refine Wr ?_
         refine Oy rfl (Yl.move rfl) ?_
         refine Oy rfl (Yl.mulW rfl rfl (c := ((U * 4294967296 + L / 4294967296) / Y) * 4294967296) (by rw [hEa]; exact k64_id (by omega) (by omega))) ?_
         refine Oy rfl (Yl.move rfl) ?_
         refine Oy rfl (Yl.addW rfl rfl (c := x / y) (by rw [hEb, ← g11]; exact k64_id (by omega) (by omega))) ?_
         refine Oy rfl (Yl.move rfl) ?_
         refine Oy rfl (Yl.mulW rfl rfl (IntKind.wrap_u64 _)) ?_
         refine Oy rfl (Yl.move rfl) ?_
         refine Oy rfl (Yl.addW rfl rfl (c := (((U * 4294967296 + L / 4294967296) % Y) * 4294967296 + L % 4294967296) % 18446744073709551616) (by rw [IntKind.wrap_u64]; omega)) ?_
         refine Oy rfl (Yl.move rfl) ?_
         refine Oy rfl (Yl.move rfl) ?_
         refine Oy rfl (Yl.mulW rfl rfl (c := ((((U * 4294967296 + L / 4294967296) % Y) * 4294967296 + L % 4294967296) / Y) * Y % 18446744073709551616) (by rw [hEb]; exact IntKind.wrap_u64 _)) ?_
         refine Oy rfl (Yl.subW rfl rfl (c := ((((U * 4294967296 + L / 4294967296) % Y) * 4294967296 + L % 4294967296) % Y)) (by rw [IntKind.wrap_u64]; omega)) ?_
         refine Oy rfl (Yl.move rfl) ?_
         refine Oy rfl (Yl.shr m p rfl rfl rfl (by show m ≤ 64; omega) m2) ?_
         refine Oy rfl (Yl.assign rfl) ?_
         refine Oy rfl (Yl.assign rfl) ?_
         refine OW.nil ?_
         refine W.ret ?_
         refine Fin.mk (Rsl.two rfl rfl rfl) ⟨?_, rfl⟩ (by repeat constructor) (by repeat constructor)
         rw [g12]
        ·have hq9d := of_decide_eq_false hq9
         refine W.skip ?_
         refine ⟨(q2 - 1, r2 + (Y / 4294967296)), _, ?_, (Le.cons rfl (Le.cons rfl (Le.cons rfl (Le.cons rfl (Le.cons rfl (Le.cons rfl (Le.cons rfl (Le.cons rfl (Le.cons rfl (Le.cons rfl (Le.cons rfl (Le.nil _)))))))))))), rfl, by repeat constructor, by repeat constructor, by have := stb.1.2.2.1; dsimp only; omega⟩
         exact ⟨stb.1, by omega⟩
       ·have hq8d := of_decide_eq_false hq8
        have hEb : q2 = ((((U * 4294967296 + L / 4294967296) % Y) * 4294967296 + L % 4294967296) / Y) := dig_stop (y0 := (Y % 4294967296)) (u0 := L % 4294967296) (by omega) (by rw [eY]) ib (by omega)
        refine W.exit ?_
        refine Wr ?_
        refine Oy rfl (Yl.move rfl) ?_
        refine Oy rfl (Yl.mulW rfl rfl (c := ((U * 4294967296 + L / 4294967296) / Y) * 4294967296) (by rw [hEa]; exact k64_id (by omega) (by omega))) ?_
        refine Oy rfl (Yl.move rfl) ?_
        refine Oy rfl (Yl.addW rfl rfl (c := x / y) (by rw [hEb, ← g11]; exact k64_id (by omega) (by omega))) ?_
        refine Oy rfl (Yl.move rfl) ?_
        refine Oy rfl (Yl.mulW rfl rfl (IntKind.wrap_u64 _)) ?_
        refine Oy rfl (Yl.move rfl) ?_
        refine Oy rfl (Yl.addW rfl rfl (c := (((U * 4294967296 + L / 4294967296) % Y) * 4294967296 + L % 4294967296) % 18446744073709551616) (by rw [IntKind.wrap_u64]; omega)) ?_
        refine Oy rfl (Yl.move rfl) ?_
        refine Oy rfl (Yl.move rfl) ?_
        refine Oy rfl (Yl.mulW rfl rfl (c := ((((U * 4294967296 + L / 4294967296) % Y) * 4294967296 + L % 4294967296) / Y) * Y % 18446744073709551616) (by rw [hEb]; exact IntKind.wrap_u64 _)) ?_
        refine Oy rfl (Yl.subW rfl rfl (c := ((((U * 4294967296 + L / 4294967296) % Y) * 4294967296 + L % 4294967296) % Y)) (by rw [IntKind.wrap_u64]; omega)) ?_
        refine Oy rfl (Yl.move rfl) ?_
        refine Oy rfl (Yl.shr m p rfl rfl rfl (by show m ≤ 64; omega) m2) ?_
        refine Oy rfl (Yl.assign rfl) ?_
        refine Oy rfl (Yl.assign rfl) ?_
        refine OW.nil ?_
        refine W.ret ?_
        refine Fin.mk (Rsl.two rfl rfl rfl) ⟨?_, rfl⟩ (by repeat constructor) (by repeat constructor)
        rw [g12]
     ·have hq5d := of_decide_eq_false hq5
      refine W.skip ?_
      refine ⟨(q - 1, r + (Y / 4294967296)), _, ?_, (Le.cons rfl (Le.cons rfl (Le.cons rfl (Le.cons rfl (Le.cons rfl (Le.cons rfl (Le.cons rfl (Le.cons rfl (Le.cons rfl (Le.cons rfl (Le.cons rfl (Le.nil _)))))))))))), rfl, by repeat constructor, by repeat constructor, by have := sta.1.2.2.1; dsimp only; omega⟩
      exact ⟨sta.1, by omega⟩
    ·have hq4d := of_decide_eq_false hq4
     refine OW.yl (Wn.run rfl rfl rfl hq4) rfl (Yl.move rfl) ?_
     refine OW.yl (Wn.run rfl rfl rfl hq4) rfl (Yl.move rfl) ?_
     refine OW.yl (Wn.run rfl rfl rfl hq4) rfl (Yl.mulW rfl rfl (by have hh := half_mulD (a := q) (b := (Y % 4294967296)) (by omega) (by omega) (by omega) (by omega); exact k64_id hh.1 hh.2)) ?_
     refine OW.yl (Wn.run rfl rfl rfl hq4) rfl (Yl.move rfl) ?_
     refine OW.yl (Wn.run rfl rfl rfl hq4) rfl (Yl.mulW rfl rfl (k64_id (by omega) (by omega))) ?_
     refine OW.yl (Wn.run rfl rfl rfl hq4) rfl (Yl.move rfl) ?_
     refine OW.yl (Wn.run rfl rfl rfl hq4) rfl (Yl.addW rfl rfl (k64_id (by omega) (by omega))) ?_
     refine OW.yl (Wn.run rfl rfl rfl hq4) rfl (Yl.gtr rfl rfl) ?_
     refine Oy rfl (Yl.pick_false rfl hq4 rfl) ?_
     refine OW.nil ?_
     refine W.cond rfl (fun hq10 => ?_) (fun hq10 => ?_)
     ·have hq10d := of_decide_eq_true hq10
      have sta := dig_step (y0 := (Y % 4294967296)) (u0 := L / 4294967296) (t := ((U * 4294967296 + L / 4294967296) / Y)) (by omega) (by omega) (by rw [eY]) (by omega) (by omega) ia (by omega)
      have sta5 := sta.1.2.2.2.2
      refine W.skip ?_
      refine W.block ?_
      refine Wr ?_
      refine Oy rfl (Yl.move rfl) ?_
      refine Oy rfl (Yl.subW rfl rfl (k64_id (by omega) (by omega))) ?_
      refine Oy rfl (Yl.assign rfl) ?_
      refine OW.nil ?_
      refine Wr ?_
      refine Oy rfl (Yl.move rfl) ?_
      refine Oy rfl (Yl.move rfl) ?_
      refine Oy rfl (Yl.addW rfl rfl (k64_id (by omega) (by omega))) ?_
      refine Oy rfl (Yl.assign rfl) ?_
      refine OW.nil ?_
      refine Wr ?_
      refine Oy rfl (Yl.move rfl) ?_
      refine Oy rfl (Yl.geq rfl rfl) ?_
      refine OW.nil ?_
      refine W.cond rfl (fun hq11 => ?_) (fun hq11 => ?_)
      ·have hq11d := of_decide_eq_true hq11
       have hEa : q - 1 = ((U * 4294967296 + L / 4294967296) / Y) := dig_break (y0 := (Y % 4294967296)) (u0 := L / 4294967296) (by omega) (by omega) (by omega) (by omega) (by rw [eY]) sta.1 sta.2 (by omega)
       refine W.exit ?_
       refine Wr ?_
       refine Oy rfl (Yl.move rfl) ?_
       refine Oy rfl (Yl.mulW rfl rfl (IntKind.wrap_u64 _)) ?_
       refine Oy rfl (Yl.move rfl) ?_
       refine Oy rfl (Yl.addW rfl rfl (c := (U * 4294967296 + L / 4294967296) % 18446744073709551616) (by rw [IntKind.wrap_u64]; omega)) ?_
       refine Oy rfl (Yl.move rfl) ?_
       refine Oy rfl (Yl.move rfl) ?_
       refine Oy rfl (Yl.mulW rfl rfl (c := ((U * 4294967296 + L / 4294967296) / Y) * Y % 18446744073709551616) (by rw [hEa]; exact IntKind.wrap_u64 _)) ?_
       refine Oy rfl (Yl.subW rfl rfl (c := ((U * 4294967296 + L / 4294967296) % Y)) (by rw [IntKind.wrap_u64]; omega)) ?_
       refine Oy rfl (Yl.assign rfl) ?_
       refine OW.nil ?_
       refine Wr ?_
       refine Oy rfl (Yl.move rfl) ?_
       refine Oy rfl (Yl.move rfl) ?_
       refine Oy rfl (Yl.quo rfl rfl (by omega) (div_u64 (by omega) (by omega) (by omega))) ?_
       refine Oy rfl (Yl.assign rfl) ?_
       refine OW.nil ?_
       refine Wr ?_
       refine Oy rfl (Yl.move rfl) ?_
       refine Oy rfl (Yl.move rfl) ?_
       refine Oy rfl (Yl.move rfl) ?_
       refine Oy rfl (Yl.mulW rfl rfl (c := ((U * 4294967296 + L / 4294967296) % Y) / (Y / 4294967296) * (Y / 4294967296)) (k64_id (by omega) (by omega))) ?_
       refine Oy rfl (Yl.subW rfl rfl (k64_id (by omega) (by omega))) ?_
       refine Oy rfl (Yl.assign rfl) ?_
       refine OW.nil ?_
       refine W.seq ?_
       refine W.block ?_
       refine W.loopS (X := (Int) × (Int)) (fun (x : (Int) × (Int)) => match x with | (q2, r2) => (KInv ((U * 4294967296 + L / 4294967296) % Y) (Y / 4294967296) ((((U * 4294967296 + L / 4294967296) % Y) * 4294967296 + L % 4294967296) / Y) q2 r2 ∧ r2 < 4294967296 : Prop)) (fun (x : (Int) × (Int)) => match x with | (q2, r2) => ([(18, .int .u64 q2), (16, .int .u64 r2)] : Env)) (fun (x : (Int) × (Int)) => match x with | (q2, r2) => ([] : List Res)) (fun (x : (Int) × (Int)) => match x with | (q2, r2) => ((q2 - ((((U * 4294967296 + L / 4294967296) % Y) * 4294967296 + L % 4294967296) / Y)).toNat : Nat)) (((U * 4294967296 + L / 4294967296) % Y) / (Y / 4294967296), ((U * 4294967296 + L / 4294967296) % Y) - ((U * 4294967296 + L / 4294967296) % Y) / (Y / 4294967296) * (Y / 4294967296)) [(2, _), (6, _), (7, _), (8, _), (9, _), (10, _), (14, _), (15, _), (17, _)] (by exact ⟨kb.1, by have := kb.2; omega⟩) (Le.cons rfl (Le.cons rfl (Le.cons rfl (Le.cons rfl (Le.cons rfl (Le.cons rfl (Le.cons rfl (Le.cons rfl (Le.cons rfl (Le.cons rfl (Le.cons rfl (Le.nil _)))))))))))) (by repeat constructor) ?_
       rintro ⟨q2, r2⟩ hinv
       show W _ _ _ _ _ _ ([(18, .int .u64 q2), (16, .int .u64 r2)] ++ _) _ ([] ++ _)
       obtain ⟨ib, ibr⟩ := hinv
       have ibx := ib
       obtain ⟨jb1, jb2, jb3, jb4, jb5⟩ := ibx
       refine W.seq ?_
       refine Wr ?_
       refine Oy rfl (Yl.move rfl) ?_
       refine Oy rfl (Yl.geq rfl rfl) ?_
       refine Oy rfl (Yl.move rfl) ?_
       refine OW.split (t := 104) rfl (fun hq12 => ?_) (fun hq12 => ?_)
       ·have hq12d := of_decide_eq_true hq12
        have stb := dig_step (y0 := (Y % 4294967296)) (u0 := L % 4294967296) (t := ((((U * 4294967296 + L / 4294967296) % Y) * 4294967296 + L % 4294967296) / Y)) (by omega) (by omega) (by rw [eY]) (by omega) (by omega) ib (by omega)
        have stb5 := stb.1.2.2.2.2
        refine OW.not (Wn.not rfl rfl rfl hq12) rfl ?_
        refine OW.not (Wn.not rfl rfl rfl hq12) rfl ?_
        refine OW.not (Wn.not rfl rfl rfl hq12) rfl ?_
        refine OW.not (Wn.not rfl rfl rfl hq12) rfl ?_
        refine OW.not (Wn.not rfl rfl rfl hq12) rfl ?_
        refine OW.not (Wn.not rfl rfl rfl hq12) rfl ?_
        refine OW.not (Wn.not rfl rfl rfl hq12) rfl ?_
        refine OW.not (Wn.not rfl rfl rfl hq12) rfl ?_
        refine Oy rfl (Yl.pick_true rfl hq12 rfl) ?_
        refine OW.nil ?_
        refine W.cond_true rfl ?_
        refine W.skip ?_
        refine W.block ?_
        refine Wr ?_
        refine Oy rfl (Yl.move rfl) ?_
        refine Oy rfl (Yl.subW rfl rfl (k64_id (by omega) (by omega))) ?_
        refine Oy rfl (Yl.assign rfl) ?_
        refine OW.nil ?_
        refine Wr ?_
        refine Oy rfl (Yl.move rfl) ?_
        refine Oy rfl (Yl.move rfl) ?_
        refine Oy rfl (Yl.addW rfl rfl (k64_id (by omega) (by omega))) ?_
        refine Oy rfl (Yl.assign rfl) ?_
        refine OW.nil ?_
        refine Wr ?_
        refine Oy rfl (Yl.move rfl) ?_
        refine Oy rfl (Yl.geq rfl rfl) ?_
        refine OW.nil ?_
        refine W.cond rfl (fun hq13 => ?_) (fun hq13 => ?_)
        ·have hq13d := of_decide_eq_true hq13
         have hEb : q2 - 1 = ((((U * 4294967296 + L / 4294967296) % Y) * 4294967296 + L % 4294967296) / Y) := dig_break (y0 := (Y % 4294967296)) (u0 := L % 4294967296) (by omega) (by omega) (by omega) (by omega) (by rw [eY]) stb.1 stb.2 (by omega)
         refine W.exit ?_
         refine Wr ?_
         refine Oy rfl (Yl.move rfl) ?_
         refine Oy rfl (Yl.mulW rfl rfl (c := ((U * 4294967296 + L / 4294967296) / Y) * 4294967296) (by rw [hEa]; exact k64_id (by omega) (by omega))) ?_
         refine Oy rfl (Yl.move rfl) ?_
         refine Oy rfl (Yl.addW rfl rfl (c := x / y) (by rw [hEb, ← g11]; exact k64_id (by omega) (by omega))) ?_
         refine Oy rfl (Yl.move rfl) ?_
         refine Oy rfl (Yl.mulW rfl rfl (IntKind.wrap_u64 _)) ?_
         refine Oy rfl (Yl.move rfl) ?_
         refine Oy rfl (Yl.addW rfl rfl (c := (((U * 4294967296 + L / 4294967296) % Y) * 4294967296 + L % 4294967296) % 18446744073709551616) (by rw [IntKind.wrap_u64]; omega)) ?_
         refine Oy rfl (Yl.move rfl) ?_
         refine Oy rfl (Yl.move rfl) ?_
         refine Oy rfl (Yl.mulW rfl rfl (c := ((((U * 4294967296 + L / 4294967296) % Y) * 4294967296 + L % 4294967296) / Y) * Y % 18446744073709551616) (by rw [hEb]; exact IntKind.wrap_u64 _)) ?_
         refine Oy rfl (Yl.subW rfl rfl (c := ((((U * 4294967296 + L / 4294967296) % Y) * 4294967296 + L % 4294967296) % Y)) (by rw [IntKind.wrap_u64]; omega)) ?_
         refine Oy rfl (Yl.move rfl) ?_
         refine Oy rfl (Yl.shr m p rfl rfl rfl (by show m ≤ 64; omega) m2) ?_
         refine Oy rfl (Yl.assign rfl) ?_
         refine Oy rfl (Yl.assign rfl) ?_
         refine OW.nil ?_
         refine W.ret ?_
         refine Fin.mk (Rsl.two rfl rfl rfl) ⟨?_, rfl⟩ (by repeat constructor) (by repeat constructor)
         rw [g12]
        ·have hq13d := of_decide_eq_false hq13
         refine W.skip ?_
         refine ⟨(q2 - 1, r2 + (Y / 4294967296)), _, ?_, (Le.cons rfl (Le.cons rfl (Le.cons rfl (Le.cons rfl (Le.cons rfl (Le.cons rfl (Le.cons rfl (Le.cons rfl (Le.cons rfl (Le.cons rfl (Le.cons rfl (Le.nil _)))))))))))), rfl, by repeat constructor, by repeat constructor, by have := stb.1.2.2.1; dsimp only; omega⟩
         exact ⟨stb.1, by omega⟩
       ·have hq12d := of_decide_eq_false hq12
        refine OW.yl (Wn.run rfl rfl rfl hq12) rfl (Yl.move rfl) ?_
        refine OW.yl (Wn.run rfl rfl rfl hq12) rfl (Yl.move rfl) ?_
        refine OW.yl (Wn.run rfl rfl rfl hq12) rfl (Yl.mulW rfl rfl (by have hh := half_mulD (a := q2) (b := (Y % 4294967296)) (by omega) (by omega) (by omega) (by omega); exact k64_id hh.1 hh.2)) ?_
        refine OW.yl (Wn.run rfl rfl rfl hq12) rfl (Yl.move rfl) ?_
        refine OW.yl (Wn.run rfl rfl rfl hq12) rfl (Yl.mulW rfl rfl (k64_id (by omega) (by omega))) ?_
        refine OW.yl (Wn.run rfl rfl rfl hq12) rfl (Yl.move rfl) ?_
        refine OW.yl (Wn.run rfl rfl rfl hq12) rfl (Yl.addW rfl rfl (k64_id (by omega) (by omega))) ?_
        refine OW.yl (Wn.run rfl rfl rfl hq12) rfl (Yl.gtr rfl rfl) ?_
        refine Oy rfl (Yl.pick_false rfl hq12 rfl) ?_
        refine OW.nil ?_
        refine W.cond rfl (fun hq14 => ?_) (fun hq14 => ?_)
        ·have hq14d := of_decide_eq_true hq14
         have stb := dig_step (y0 := (Y % 4294967296)) (u0 := L % 4294967296) (t := ((((U * 4294967296 + L / 4294967296) % Y) * 4294967296 + L % 4294967296) / Y)) (by omega) (by omega) (by rw [eY]) (by omega) (by omega) ib (by omega)
         have stb5 := stb.1.2.2.2.2
         refine W.skip ?_
         refine W.block ?_
         refine Wr ?_
         refine Oy rfl (Yl.move rfl) ?_
         refine Oy rfl (Yl.subW rfl rfl (k64_id (by omega) (by omega))) ?_
         refine Oy rfl (Yl.assign rfl) ?_
         refine OW.nil ?_
         refine Wr ?_
         refine Oy rfl (Yl.move rfl) ?_
         refine Oy rfl (Yl.move rfl) ?_
         refine Oy rfl (Yl.addW rfl rfl (k64_id (by omega) (by omega))) ?_
         refine Oy rfl (Yl.assign rfl) ?_
         refine OW.nil ?_
         refine Wr ?_
         refine Oy rfl (Yl.move rfl) ?_
         refine Oy rfl (Yl.geq rfl rfl) ?_
         refine OW.nil ?_
         refine W.cond rfl (fun hq15 => ?_) (fun hq15 => ?_)
         ·have hq15d := of_decide_eq_true hq15
          have hEb : q2 - 1 = ((((U * 4294967296 + L / 4294967296) % Y) * 4294967296 + L % 4294967296) / Y) := dig_break (y0 := (Y % 4294967296)) (u0 := L % 4294967296) (by omega) (by omega) (by omega) (by omega) (by rw [eY]) stb.1 stb.2 (by omega)
          refine W.exit ?_
          refine Wr ?_
          refine Oy rfl (Yl.move rfl) ?_
          refine Oy rfl (Yl.mulW rfl rfl (c := ((U * 4294967296 + L / 4294967296) / Y) * 4294967296) (by rw [hEa]; exact k64_id (by omega) (by omega))) ?_
          refine Oy rfl (Yl.move rfl) ?_
          refine Oy rfl (Yl.addW rfl rfl (c := x / y) (by rw [hEb, ← g11]; exact k64_id (by omega) (by omega))) ?_
          refine Oy rfl (Yl.move rfl) ?_
          refine Oy rfl (Yl.mulW rfl rfl (IntKind.wrap_u64 _)) ?_
          refine Oy rfl (Yl.move rfl) ?_
          refine Oy rfl (Yl.addW rfl rfl (c := (((U * 4294967296 + L / 4294967296) % Y) * 4294967296 + L % 4294967296) % 18446744073709551616) (by rw [IntKind.wrap_u64]; omega)) ?_
          refine Oy rfl (Yl.move rfl) ?_
          refine Oy rfl (Yl.move rfl) ?_
          refine Oy rfl (Yl.mulW rfl rfl (c := ((((U * 4294967296 + L / 4294967296) % Y) * 4294967296 + L % 4294967296) / Y) * Y % 18446744073709551616) (by rw [hEb]; exact IntKind.wrap_u64 _)) ?_
          refine Oy rfl (Yl.subW rfl rfl (c := ((((U * 4294967296 + L / 4294967296) % Y) * 4294967296 + L % 4294967296) % Y)) (by rw [IntKind.wrap_u64]; omega)) ?_
          refine Oy rfl (Yl.move rfl) ?_
          refine Oy rfl (Yl.shr m p rfl rfl rfl (by show m ≤ 64; omega) m2) ?_
          refine Oy rfl (Yl.assign rfl) ?_
          refine Oy rfl (Yl.assign rfl) ?_
          refine OW.nil ?_
          refine W.ret ?_
          refine Fin.mk (Rsl.two rfl rfl rfl) ⟨?_, rfl⟩ (by repeat constructor) (by repeat constructor)
          rw [g12]
         ·have hq15d := of_decide_eq_false hq15
          refine W.skip ?_
          refine ⟨(q2 - 1, r2 + (Y / 4294967296)), _, ?_, (Le.cons rfl (Le.cons rfl (Le.cons rfl (Le.cons rfl (Le.cons rfl (Le.cons rfl (Le.cons rfl (Le.cons rfl (Le.cons rfl (Le.cons rfl (Le.cons rfl (Le.nil _)))))))))))), rfl, by repeat constructor, by repeat constructor, by have := stb.1.2.2.1; dsimp only; omega⟩
          exact ⟨stb.1, by omega⟩
        ·have hq14d := of_decide_eq_false hq14
         have hEb : q2 = ((((U * 4294967296 + L / 4294967296) % Y) * 4294967296 + L % 4294967296) / Y) := dig_stop (y0 := (Y % 4294967296)) (u0 := L % 4294967296) (by omega) (by rw [eY]) ib (by omega)
         refine W.exit ?_
         refine Wr ?_
         refine Oy rfl (Yl.move rfl) ?_
         refine Oy rfl (Yl.mulW rfl rfl (c := ((U * 4294967296 + L / 4294967296) / Y) * 4294967296) (by rw [hEa]; exact k64_id (by omega) (by omega))) ?_
         refine Oy rfl (Yl.move rfl) ?_
         refine Oy rfl (Yl.addW rfl rfl (c := x / y) (by rw [hEb, ← g11]; exact k64_id (by omega) (by omega))) ?_
         refine Oy rfl (Yl.move rfl) ?_
         refine Oy rfl (Yl.mulW rfl rfl (IntKind.wrap_u64 _)) ?_
         refine Oy rfl (Yl.move rfl) ?_
         refine Oy rfl (Yl.addW rfl rfl (c := (((U * 4294967296 + L / 4294967296) % Y) * 4294967296 + L % 4294967296) % 18446744073709551616) (by rw [IntKind.wrap_u64]; omega)) ?_
         refine Oy rfl (Yl.move rfl) ?_
         refine Oy rfl (Yl.move rfl) ?_
         refine Oy rfl (Yl.mulW rfl rfl (c := ((((U * 4294967296 + L / 4294967296) % Y) * 4294967296 + L % 4294967296) / Y) * Y % 18446744073709551616) (by rw [hEb]; exact IntKind.wrap_u64 _)) ?_
         refine Oy rfl (Yl.subW rfl rfl (c := ((((U * 4294967296 + L / 4294967296) % Y) * 4294967296 + L % 4294967296) % Y)) (by rw [IntKind.wrap_u64]; omega)) ?_
         refine Oy rfl (Yl.move rfl) ?_
         refine Oy rfl (Yl.shr m p rfl rfl rfl (by show m ≤ 64; omega) m2) ?_
         refine Oy rfl (Yl.assign rfl) ?_
         refine Oy rfl (Yl.assign rfl) ?_
         refine OW.nil ?_
         refine W.ret ?_
         refine Fin.mk (Rsl.two rfl rfl rfl) ⟨?_, rfl⟩ (by repeat constructor) (by repeat constructor)
         rw [g12]
      ·have hq11d := of_decide_eq_false hq11
       refine W.skip ?_
       refine ⟨(q - 1, r + (Y / 4294967296)), _, ?_, (Le.cons rfl (Le.cons rfl (Le.cons rfl (Le.cons rfl (Le.cons rfl (Le.cons rfl (Le.cons rfl (Le.cons rfl (Le.cons rfl (Le.cons rfl (Le.cons rfl (Le.nil _)))))))))))), rfl, by repeat constructor, by repeat constructor, by have := sta.1.2.2.1; dsimp only; omega⟩
       exact ⟨sta.1, by omega⟩
     ·have hq10d := of_decide_eq_false hq10
      have hEa : q = ((U * 4294967296 + L / 4294967296) / Y) := dig_stop (y0 := (Y % 4294967296)) (u0 := L / 4294967296) (by omega) (by rw [eY]) ia (by omega)
      refine W.exit ?_
      refine Wr ?_
      refine Oy rfl (Yl.move rfl) ?_
      refine Oy rfl (Yl.mulW rfl rfl (IntKind.wrap_u64 _)) ?_
      refine Oy rfl (Yl.move rfl) ?_
      refine Oy rfl (Yl.addW rfl rfl (c := (U * 4294967296 + L / 4294967296) % 18446744073709551616) (by rw [IntKind.wrap_u64]; omega)) ?_
      refine Oy rfl (Yl.move rfl) ?_
      refine Oy rfl (Yl.move rfl) ?_
      refine Oy rfl (Yl.mulW rfl rfl (c := ((U * 4294967296 + L / 4294967296) / Y) * Y % 18446744073709551616) (by rw [hEa]; exact IntKind.wrap_u64 _)) ?_
      refine Oy rfl (Yl.subW rfl rfl (c := ((U * 4294967296 + L / 4294967296) % Y)) (by rw [IntKind.wrap_u64]; omega)) ?_
      refine Oy rfl (Yl.assign rfl) ?_
      refine OW.nil ?_
      refine Wr ?_
      refine Oy rfl (Yl.move rfl) ?_
      refine Oy rfl (Yl.move rfl) ?_
      refine Oy rfl (Yl.quo rfl rfl (by omega) (div_u64 (by omega) (by omega) (by omega))) ?_
      refine Oy rfl (Yl.assign rfl) ?_
      refine OW.nil ?_
      refine Wr ?_
      refine Oy rfl (Yl.move rfl) ?_
      refine Oy rfl (Yl.move rfl) ?_
      refine Oy rfl (Yl.move rfl) ?_
      refine Oy rfl (Yl.mulW rfl rfl (c := ((U * 4294967296 + L / 4294967296) % Y) / (Y / 4294967296) * (Y / 4294967296)) (k64_id (by omega) (by omega))) ?_
      refine Oy rfl (Yl.subW rfl rfl (k64_id (by omega) (by omega))) ?_
      refine Oy rfl (Yl.assign rfl) ?_
      refine OW.nil ?_
      refine W.seq ?_
      refine W.block ?_
      refine W.loopS (X := (Int) × (Int)) (fun (x : (Int) × (Int)) => match x with | (q2, r2) => (KInv ((U * 4294967296 + L / 4294967296) % Y) (Y / 4294967296) ((((U * 4294967296 + L / 4294967296) % Y) * 4294967296 + L % 4294967296) / Y) q2 r2 ∧ r2 < 4294967296 : Prop)) (fun (x : (Int) × (Int)) => match x with | (q2, r2) => ([(18, .int .u64 q2), (16, .int .u64 r2)] : Env)) (fun (x : (Int) × (Int)) => match x with | (q2, r2) => ([] : List Res)) (fun (x : (Int) × (Int)) => match x with | (q2, r2) => ((q2 - ((((U * 4294967296 + L / 4294967296) % Y) * 4294967296 + L % 4294967296) / Y)).toNat : Nat)) (((U * 4294967296 + L / 4294967296) % Y) / (Y / 4294967296), ((U * 4294967296 + L / 4294967296) % Y) - ((U * 4294967296 + L / 4294967296) % Y) / (Y / 4294967296) * (Y / 4294967296)) [(2, _), (6, _), (7, _), (8, _), (9, _), (10, _), (14, _), (15, _), (17, _)] (by exact ⟨kb.1, by have := kb.2; omega⟩) (Le.cons rfl (Le.cons rfl (Le.cons rfl (Le.cons rfl (Le.cons rfl (Le.cons rfl (Le.cons rfl (Le.cons rfl (Le.cons rfl (Le.cons rfl (Le.cons rfl (Le.nil _)))))))))))) (by repeat constructor) ?_
      rintro ⟨q2, r2⟩ hinv
      show W _ _ _ _ _ _ ([(18, .int .u64 q2), (16, .int .u64 r2)] ++ _) _ ([] ++ _)
      obtain ⟨ib, ibr⟩ := hinv
      have ibx := ib
      obtain ⟨jb1, jb2, jb3, jb4, jb5⟩ := ibx
      refine W.seq ?_
      refine Wr ?_
      refine Oy rfl (Yl.move rfl) ?_
      refine Oy rfl (Yl.geq rfl rfl) ?_
      refine Oy rfl (Yl.move rfl) ?_
      refine OW.split (t := 104) rfl (fun hq16 => ?_) (fun hq16 => ?_)
      ·have hq16d := of_decide_eq_true hq16
       have stb := dig_step (y0 := (Y % 4294967296)) (u0 := L % 4294967296) (t := ((((U * 4294967296 + L / 4294967296) % Y) * 4294967296 + L % 4294967296) / Y)) (by omega) (by omega) (by rw [eY]) (by omega) (by omega) ib (by omega)
       have stb5 := stb.1.2.2.2.2
       refine OW.not (Wn.not rfl rfl rfl hq16) rfl ?_
       refine OW.not (Wn.not rfl rfl rfl hq16) rfl ?_
       refine OW.not (Wn.not rfl rfl rfl hq16) rfl ?_
       refine OW.not (Wn.not rfl rfl rfl hq16) rfl ?_
       refine OW.not (Wn.not rfl rfl rfl hq16) rfl ?_
       refine OW.not (Wn.not rfl rfl rfl hq16) rfl ?_
       refine OW.not (Wn.not rfl rfl rfl hq16) rfl ?_
       refine OW.not (Wn.not rfl rfl rfl hq16) rfl ?_
       refine Oy rfl (Yl.pick_true rfl hq16 rfl) ?_
       refine OW.nil ?_
       refine W.cond_true rfl ?_
       refine W.skip ?_
       refine W.block ?_
       refine Wr ?_
       refine Oy rfl (Yl.move rfl) ?_
       refine Oy rfl (Yl.subW rfl rfl (k64_id (by omega) (by omega))) ?_
       refine Oy rfl (Yl.assign rfl) ?_
       refine OW.nil ?_
       refine Wr ?_
       refine Oy rfl (Yl.move rfl) ?_
       refine Oy rfl (Yl.move rfl) ?_
       refine Oy rfl (Yl.addW rfl rfl (k64_id (by omega) (by omega))) ?_
       refine Oy rfl (Yl.assign rfl) ?_
       refine OW.nil ?_
       refine Wr ?_
       refine Oy rfl (Yl.move rfl) ?_
       refine Oy rfl (Yl.geq rfl rfl) ?_
       refine OW.nil ?_
       refine W.cond rfl (fun hq17 => ?_) (fun hq17 => ?_)
       ·have hq17d := of_decide_eq_true hq17
        have hEb : q2 - 1 = ((((U * 4294967296 + L / 4294967296) % Y) * 4294967296 + L % 4294967296) / Y) := dig_break (y0 := (Y % 4294967296)) (u0 := L % 4294967296) (by omega) (by omega) (by omega) (by omega) (by rw [eY]) stb.1 stb.2 (by omega)
        refine W.exit ?_
        refine Wr ?_
        refine Oy rfl (Yl.move rfl) ?_
        refine Oy rfl (Yl.mulW rfl rfl (c := ((U * 4294967296 + L / 4294967296) / Y) * 4294967296) (by rw [hEa]; exact k64_id (by omega) (by omega))) ?_
        refine Oy rfl (Yl.move rfl) ?_
        refine Oy rfl (Yl.addW rfl rfl (c := x / y) (by rw [hEb, ← g11]; exact k64_id (by omega) (by omega))) ?_
        refine Oy rfl (Yl.move rfl) ?_
        refine Oy rfl (Yl.mulW rfl rfl (IntKind.wrap_u64 _)) ?_
        refine Oy rfl (Yl.move rfl) ?_
        refine Oy rfl (Yl.addW rfl rfl (c := (((U * 4294967296 + L / 4294967296) % Y) * 4294967296 + L % 4294967296) % 18446744073709551616) (by rw [IntKind.wrap_u64]; omega)) ?_
        refine Oy rfl (Yl.move rfl) ?_
        refine Oy rfl (Yl.move rfl) ?_
        refine Oy rfl (Yl.mulW rfl rfl (c := ((((U * 4294967296 + L / 4294967296) % Y) * 4294967296 + L % 4294967296) / Y) * Y % 18446744073709551616) (by rw [hEb]; exact IntKind.wrap_u64 _)) ?_
        refine Oy rfl (Yl.subW rfl rfl (c := ((((U * 4294967296 + L / 4294967296) % Y) * 4294967296 + L % 4294967296) % Y)) (by rw [IntKind.wrap_u64]; omega)) ?_
        refine Oy rfl (Yl.move rfl) ?_
        refine Oy rfl (Yl.shr m p rfl rfl rfl (by show m ≤ 64; omega) m2) ?_
        refine Oy rfl (Yl.assign rfl) ?_
        refine Oy rfl (Yl.assign rfl) ?_
        refine OW.nil ?_
        refine W.ret ?_
        refine Fin.mk (Rsl.two rfl rfl rfl) ⟨?_, rfl⟩ (by repeat constructor) (by repeat constructor)
        rw [g12]
       ·have hq17d := of_decide_eq_false hq17
        refine W.skip ?_
        refine ⟨(q2 - 1, r2 + (Y / 4294967296)), _, ?_, (Le.cons rfl (Le.cons rfl (Le.cons rfl (Le.cons rfl (Le.cons rfl (Le.cons rfl (Le.cons rfl (Le.cons rfl (Le.cons rfl (Le.cons rfl (Le.cons rfl (Le.nil _)))))))))))), rfl, by repeat constructor, by repeat constructor, by have := stb.1.2.2.1; dsimp only; omega⟩
        exact ⟨stb.1, by omega⟩
      ·have hq16d := of_decide_eq_false hq16
       refine OW.yl (Wn.run rfl rfl rfl hq16) rfl (Yl.move rfl) ?_
       refine OW.yl (Wn.run rfl rfl rfl hq16) rfl (Yl.move rfl) ?_
       refine OW.yl (Wn.run rfl rfl rfl hq16) rfl (Yl.mulW rfl rfl (by have hh := half_mulD (a := q2) (b := (Y % 4294967296)) (by omega) (by omega) (by omega) (by omega); exact k64_id hh.1 hh.2)) ?_
       refine OW.yl (Wn.run rfl rfl rfl hq16) rfl (Yl.move rfl) ?_
       refine OW.yl (Wn.run rfl rfl rfl hq16) rfl (Yl.mulW rfl rfl (k64_id (by omega) (by omega))) ?_
       refine OW.yl (Wn.run rfl rfl rfl hq16) rfl (Yl.move rfl) ?_
       refine OW.yl (Wn.run rfl rfl rfl hq16) rfl (Yl.addW rfl rfl (k64_id (by omega) (by omega))) ?_
       refine OW.yl (Wn.run rfl rfl rfl hq16) rfl (Yl.gtr rfl rfl) ?_
       refine Oy rfl (Yl.pick_false rfl hq16 rfl) ?_
       refine OW.nil ?_
       refine W.cond rfl (fun hq18 => ?_) (fun hq18 => ?_)
       ·have hq18d := of_decide_eq_true hq18
        have stb := dig_step (y0 := (Y % 4294967296)) (u0 := L % 4294967296) (t := ((((U * 4294967296 + L / 4294967296) % Y) * 4294967296 + L % 4294967296) / Y)) (by omega) (by omega) (by rw [eY]) (by omega) (by omega) ib (by omega)
        have stb5 := stb.1.2.2.2.2
        refine W.skip ?_
        refine W.block ?_
        refine Wr ?_
        refine Oy rfl (Yl.move rfl) ?_
        refine Oy rfl (Yl.subW rfl rfl (k64_id (by omega) (by omega))) ?_
        refine Oy rfl (Yl.assign rfl) ?_
        refine OW.nil ?_
        refine Wr ?_
        refine Oy rfl (Yl.move rfl) ?_
        refine Oy rfl (Yl.move rfl) ?_
        refine Oy rfl (Yl.addW rfl rfl (k64_id (by omega) (by omega))) ?_
        refine Oy rfl (Yl.assign rfl) ?_
        refine OW.nil ?_
        refine Wr ?_
        refine Oy rfl (Yl.move rfl) ?_
        refine Oy rfl (Yl.geq rfl rfl) ?_
        refine OW.nil ?_
        refine W.cond rfl (fun hq19 => ?_) (fun hq19 => ?_)
        ·have hq19d := of_decide_eq_true hq19
         have hEb : q2 - 1 = ((((U * 4294967296 + L / 4294967296) % Y) * 4294967296 + L % 4294967296) / Y) := dig_break (y0 := (Y % 4294967296)) (u0 := L % 4294967296) (by omega) (by omega) (by omega) (by omega) (by rw [eY]) stb.1 stb.2 (by omega)
         refine W.exit ?_
         refine Wr ?_
         refine Oy rfl (Yl.move rfl) ?_
         refine Oy rfl (Yl.mulW rfl rfl (c := ((U * 4294967296 + L / 4294967296) / Y) * 4294967296) (by rw [hEa]; exact k64_id (by omega) (by omega))) ?_
         refine Oy rfl (Yl.move rfl) ?_
         refine Oy rfl (Yl.addW rfl rfl (c := x / y) (by rw [hEb, ← g11]; exact k64_id (by omega) (by omega))) ?_
         refine Oy rfl (Yl.move rfl) ?_
         refine Oy rfl (Yl.mulW rfl rfl (IntKind.wrap_u64 _)) ?_
         refine Oy rfl (Yl.move rfl) ?_
         refine Oy rfl (Yl.addW rfl rfl (c := (((U * 4294967296 + L / 4294967296) % Y) * 4294967296 + L % 4294967296) % 18446744073709551616) (by rw [IntKind.wrap_u64]; omega)) ?_
         refine Oy rfl (Yl.move rfl) ?_
         refine Oy rfl (Yl.move rfl) ?_
         refine Oy rfl (Yl.mulW rfl rfl (c := ((((U * 4294967296 + L / 4294967296) % Y) * 4294967296 + L % 4294967296) / Y) * Y % 18446744073709551616) (by rw [hEb]; exact IntKind.wrap_u64 _)) ?_
         refine Oy rfl (Yl.subW rfl rfl (c := ((((U * 4294967296 + L / 4294967296) % Y) * 4294967296 + L % 4294967296) % Y)) (by rw [IntKind.wrap_u64]; omega)) ?_
         refine Oy rfl (Yl.move rfl) ?_
         refine Oy rfl (Yl.shr m p rfl rfl rfl (by show m ≤ 64; omega) m2) ?_
         refine Oy rfl (Yl.assign rfl) ?_
         refine Oy rfl (Yl.assign rfl) ?_
         refine OW.nil ?_
         refine W.ret ?_
         refine Fin.mk (Rsl.two rfl rfl rfl) ⟨?_, rfl⟩ (by repeat constructor) (by repeat constructor)
         rw [g12]
        ·have hq19d := of_decide_eq_false hq19
         refine W.skip ?_
         refine ⟨(q2 - 1, r2 + (Y / 4294967296)), _, ?_, (Le.cons rfl (Le.cons rfl (Le.cons rfl (Le.cons rfl (Le.cons rfl (Le.cons rfl (Le.cons rfl (Le.cons rfl (Le.cons rfl (Le.cons rfl (Le.cons rfl (Le.nil _)))))))))))), rfl, by repeat constructor, by repeat constructor, by have := stb.1.2.2.1; dsimp only; omega⟩
         exact ⟨stb.1, by omega⟩
       ·have hq18d := of_decide_eq_false hq18
        have hEb : q2 = ((((U * 4294967296 + L / 4294967296) % Y) * 4294967296 + L % 4294967296) / Y) := dig_stop (y0 := (Y % 4294967296)) (u0 := L % 4294967296) (by omega) (by rw [eY]) ib (by omega)
        refine W.exit ?_
        refine Wr ?_
        refine Oy rfl (Yl.move rfl) ?_
        refine Oy rfl (Yl.mulW rfl rfl (c := ((U * 4294967296 + L / 4294967296) / Y) * 4294967296) (by rw [hEa]; exact k64_id (by omega) (by omega))) ?_
        refine Oy rfl (Yl.move rfl) ?_
        refine Oy rfl (Yl.addW rfl rfl (c := x / y) (by rw [hEb, ← g11]; exact k64_id (by omega) (by omega))) ?_
        refine Oy rfl (Yl.move rfl) ?_
        refine Oy rfl (Yl.mulW rfl rfl (IntKind.wrap_u64 _)) ?_
        refine Oy rfl (Yl.move rfl) ?_
        refine Oy rfl (Yl.addW rfl rfl (c := (((U * 4294967296 + L / 4294967296) % Y) * 4294967296 + L % 4294967296) % 18446744073709551616) (by rw [IntKind.wrap_u64]; omega)) ?_
        refine Oy rfl (Yl.move rfl) ?_
        refine Oy rfl (Yl.move rfl) ?_
        refine Oy rfl (Yl.mulW rfl rfl (c := ((((U * 4294967296 + L / 4294967296) % Y) * 4294967296 + L % 4294967296) / Y) * Y % 18446744073709551616) (by rw [hEb]; exact IntKind.wrap_u64 _)) ?_
        refine Oy rfl (Yl.subW rfl rfl (c := ((((U * 4294967296 + L / 4294967296) % Y) * 4294967296 + L % 4294967296) % Y)) (by rw [IntKind.wrap_u64]; omega)) ?_
        refine Oy rfl (Yl.move rfl) ?_
        refine Oy rfl (Yl.shr m p rfl rfl rfl (by show m ≤ 64; omega) m2) ?_
        refine Oy rfl (Yl.assign rfl) ?_
        refine Oy rfl (Yl.assign rfl) ?_
        refine OW.nil ?_
        refine W.ret ?_
        refine Fin.mk (Rsl.two rfl rfl rfl) ⟨?_, rfl⟩ (by repeat constructor) (by repeat constructor)
        rw [g12]
end Go.Yb
