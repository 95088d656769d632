/-
  A part of the proof of windowLine_holds: see the text that holds it. No conditions of its own.
-/
import Derived.Test.YtbfhhinhjgdgpaaGreatDoorWide
namespace Go.Yb
open Go Go.Proofs Go.RowKit

/-! line: lines with whole numbers on them -/
structure Slo where
  N : Int
  D : Int
  deriving DecidableEq
structure Lin where
  A : Int
  R : Int
  N : Int
  D : Int
  deriving DecidableEq
def encS (s : Slo) : List Value := [.int .i64 s.N, .int .i64 s.D]
def encL (l : Lin) : List Value := [.int .i64 l.A, .int .i64 l.R, .int .i64 l.N, .int .i64 l.D]
def I64 (n : Int) : Prop := -9223372036854775808 ≤ n ∧ n ≤ 9223372036854775807
def backM (n : Int) : Bool := decide (-2305844108725321728 ≤ n ∧ n ≤ 2305844108725321728)
def timeM (n : Int) : Bool := decide (0 ≤ n ∧ n ≤ 281474976710656)
def slopeM (s : Slo) : Bool := decide (1 ≤ s.D ∧ s.D ≤ 281474976710656 ∧ -4611688217450643456 ≤ s.N ∧ s.N ≤ 4611688217450643456)
def lowM (s : Slo) : Slo := ⟨s.N / (Int.gcd s.N s.D : Int), s.D / (Int.gcd s.N s.D : Int)⟩
def lineM (l : Lin) : Bool := backM l.A && slopeM ⟨l.N, l.D⟩ && decide (lowM ⟨l.N, l.D⟩ = ⟨l.N, l.D⟩) && decide (0 ≤ l.R) && decide (l.R < l.D)
def overM (l : Lin) (dt : Int) : Int := (l.N * dt + l.R) / l.D + l.A
def restM (l : Lin) (dt : Int) : Int := (l.N * dt + l.R) % l.D
theorem boolv {a b : Bool} (h : a = b) : Value.bool a = .bool b := by rw [h]
theorem c_timeIs (n : Int) : FnV Tryz.prog 47 #[.int .i64 n] [] (.bool (timeM n)) := by
 refine FnC.go (m := 9) Tryz.func47 Tryz.ntmps47 rfl (Nat.le_of_ble_eq_true rfl) (fun Lf => ?_)
 refine Wr ?_
 refine Oy rfl (Yl.assign rfl) ?_
 refine OW.nil ?_
 refine Wr ?_
 refine Oy rfl (Yl.move rfl) ?_
 refine Oy rfl (Yl.geq rfl rfl) ?_
 refine Oy rfl (Yl.move rfl) ?_
 refine OW.split (t := 5) rfl (fun hq1 => ?_) (fun hq1 => ?_)
 ·have hq1d := of_decide_eq_true hq1
  refine OW.yl (Wn.run rfl rfl rfl hq1) rfl (Yl.move rfl) ?_
  refine OW.yl (Wn.run rfl rfl rfl hq1) rfl (Yl.leq rfl rfl) ?_
  refine Oy rfl (Yl.pick_true rfl hq1 rfl) ?_
  refine Oy rfl (Yl.assign rfl) ?_
  refine OW.nil ?_
  refine W.ret ?_
  refine Fin.mk (Rsl.one rfl rfl) ⟨?_, rfl⟩ (by repeat constructor) (by repeat constructor)
  simp [timeM]; omega
 ·have hq1d := of_decide_eq_false hq1
  refine OW.not (Wn.not rfl rfl rfl hq1) rfl ?_
  refine OW.not (Wn.not rfl rfl rfl hq1) rfl ?_
  refine Oy rfl (Yl.pick_false rfl hq1 rfl) ?_
  refine Oy rfl (Yl.assign rfl) ?_
  refine OW.nil ?_
  refine W.ret ?_
  refine Fin.mk (Rsl.one rfl rfl) ⟨?_, rfl⟩ (by repeat constructor) (by repeat constructor)
  simp [timeM]; omega
theorem c_lback (n : Int) : FnV Tryz.prog 91 #[.int .i64 n] [] (.bool (backM n)) := by
 refine FnC.go (m := 9) Tryz.func91 Tryz.ntmps91 rfl (Nat.le_of_ble_eq_true rfl) (fun Lf => ?_)
 refine Wr ?_
 refine Oy rfl (Yl.assign rfl) ?_
 refine OW.nil ?_
 refine Wr ?_
 refine Oy rfl (Yl.move rfl) ?_
 refine Oy rfl (Yl.geq rfl rfl) ?_
 refine Oy rfl (Yl.move rfl) ?_
 refine OW.split (t := 5) rfl (fun hq1 => ?_) (fun hq1 => ?_)
 ·have hq1d := of_decide_eq_true hq1
  refine OW.yl (Wn.run rfl rfl rfl hq1) rfl (Yl.move rfl) ?_
  refine OW.yl (Wn.run rfl rfl rfl hq1) rfl (Yl.leq rfl rfl) ?_
  refine Oy rfl (Yl.pick_true rfl hq1 rfl) ?_
  refine Oy rfl (Yl.assign rfl) ?_
  refine OW.nil ?_
  refine W.ret ?_
  refine Fin.mk (Rsl.one rfl rfl) ⟨?_, rfl⟩ (by repeat constructor) (by repeat constructor)
  simp [backM]; omega
 ·have hq1d := of_decide_eq_false hq1
  refine OW.not (Wn.not rfl rfl rfl hq1) rfl ?_
  refine OW.not (Wn.not rfl rfl rfl hq1) rfl ?_
  refine Oy rfl (Yl.pick_false rfl hq1 rfl) ?_
  refine Oy rfl (Yl.assign rfl) ?_
  refine OW.nil ?_
  refine W.ret ?_
  refine Fin.mk (Rsl.one rfl rfl) ⟨?_, rfl⟩ (by repeat constructor) (by repeat constructor)
  simp [backM]; omega
theorem c_slopeIs (s : Slo) : FnV Tryz.prog 92 #[.agg (encS s).toArray] [] (.bool (slopeM s)) := by
 refine FnC.go (m := 21) Tryz.func92 Tryz.ntmps92 rfl (Nat.le_of_ble_eq_true rfl) (fun Lf => ?_)
 refine Wr ?_
 refine OW.box (Wn.plain rfl) rfl rfl (by constructor) (fun b1 => ?_)
 refine Oy rfl (Yl.assign rfl) ?_
 refine OW.nil ?_
 refine Wr ?_
 refine Oy rfl (Yl.fieldL 1 (fa_146_1) rfl rfl) ?_
 refine Oy rfl (Yl.load1 Tryz.isAgg2 rfl (by repeat constructor) (by repeat constructor)) ?_
 refine Oy rfl (Yl.geq rfl rfl) ?_
 refine Oy rfl (Yl.move rfl) ?_
 refine OW.split (t := 6) rfl (fun hq1 => ?_) (fun hq1 => ?_)
 ·have hq1d := of_decide_eq_true hq1
  refine OW.yl (Wn.run rfl rfl rfl hq1) rfl (Yl.fieldL 1 (fa_146_1) rfl rfl) ?_
  refine OW.yl (Wn.run rfl rfl rfl hq1) rfl (Yl.load1 Tryz.isAgg2 rfl (by repeat constructor) (by repeat constructor)) ?_
  refine OW.yl (Wn.run rfl rfl rfl hq1) rfl (Yl.leq rfl rfl) ?_
  refine Oy rfl (Yl.pick_true rfl hq1 rfl) ?_
  refine Oy rfl (Yl.move rfl) ?_
  refine OW.split (t := 11) rfl (fun hq2 => ?_) (fun hq2 => ?_)
  ·have hq2d := of_decide_eq_true hq2
   refine OW.yl (Wn.run rfl rfl rfl hq2) rfl (Yl.fieldL 0 (fa_146_0) rfl rfl) ?_
   refine OW.yl (Wn.run rfl rfl rfl hq2) rfl (Yl.load1 Tryz.isAgg2 rfl (by repeat constructor) (by repeat constructor)) ?_
   refine OW.yl (Wn.run rfl rfl rfl hq2) rfl (Yl.geq rfl rfl) ?_
   refine Oy rfl (Yl.pick_true rfl hq2 rfl) ?_
   refine Oy rfl (Yl.move rfl) ?_
   refine OW.split (t := 16) rfl (fun hq3 => ?_) (fun hq3 => ?_)
   ·have hq3d := of_decide_eq_true hq3
    refine OW.yl (Wn.run rfl rfl rfl hq3) rfl (Yl.fieldL 0 (fa_146_0) rfl rfl) ?_
    refine OW.yl (Wn.run rfl rfl rfl hq3) rfl (Yl.load1 Tryz.isAgg2 rfl (by repeat constructor) (by repeat constructor)) ?_
    refine OW.yl (Wn.run rfl rfl rfl hq3) rfl (Yl.leq rfl rfl) ?_
    refine Oy rfl (Yl.pick_true rfl hq3 rfl) ?_
    refine Oy rfl (Yl.assign rfl) ?_
    refine OW.nil ?_
    refine W.ret ?_
    refine Fin.mk (Rsl.one rfl rfl) ⟨?_, rfl⟩ (by repeat constructor) (by repeat constructor)
    refine boolv ?_
    unfold slopeM
    first | (refine t_dec ?_; omega) | (refine f_dec ?_; omega) | (refine decide_eq_decide.2 ?_; omega)
   ·have hq3d := of_decide_eq_false hq3
    refine OW.not (Wn.not rfl rfl rfl hq3) rfl ?_
    refine OW.not (Wn.not rfl rfl rfl hq3) rfl ?_
    refine OW.not (Wn.not rfl rfl rfl hq3) rfl ?_
    refine Oy rfl (Yl.pick_false rfl hq3 rfl) ?_
    refine Oy rfl (Yl.assign rfl) ?_
    refine OW.nil ?_
    refine W.ret ?_
    refine Fin.mk (Rsl.one rfl rfl) ⟨?_, rfl⟩ (by repeat constructor) (by repeat constructor)
    refine boolv ?_
    unfold slopeM
    first | (refine t_dec ?_; omega) | (refine f_dec ?_; omega) | (refine decide_eq_decide.2 ?_; omega)
  ·have hq2d := of_decide_eq_false hq2
   refine OW.not (Wn.not rfl rfl rfl hq2) rfl ?_
   refine OW.not (Wn.not rfl rfl rfl hq2) rfl ?_
   refine OW.not (Wn.not rfl rfl rfl hq2) rfl ?_
   refine Oy rfl (Yl.pick_false rfl hq2 rfl) ?_
   refine Oy rfl (Yl.move rfl) ?_
   refine OW.not (Wn.not rfl rfl rfl rfl) rfl ?_
   refine OW.not (Wn.not rfl rfl rfl rfl) rfl ?_
   refine OW.not (Wn.not rfl rfl rfl rfl) rfl ?_
   refine Oy rfl (Yl.pick_false rfl rfl rfl) ?_
   refine Oy rfl (Yl.assign rfl) ?_
   refine OW.nil ?_
   refine W.ret ?_
   refine Fin.mk (Rsl.one rfl rfl) ⟨?_, rfl⟩ (by repeat constructor) (by repeat constructor)
   refine boolv ?_
   unfold slopeM
   first | (refine t_dec ?_; omega) | (refine f_dec ?_; omega) | (refine decide_eq_decide.2 ?_; omega)
 ·have hq1d := of_decide_eq_false hq1
  refine OW.not (Wn.not rfl rfl rfl hq1) rfl ?_
  refine OW.not (Wn.not rfl rfl rfl hq1) rfl ?_
  refine OW.not (Wn.not rfl rfl rfl hq1) rfl ?_
  refine Oy rfl (Yl.pick_false rfl hq1 rfl) ?_
  refine Oy rfl (Yl.move rfl) ?_
  refine OW.not (Wn.not rfl rfl rfl rfl) rfl ?_
  refine OW.not (Wn.not rfl rfl rfl rfl) rfl ?_
  refine OW.not (Wn.not rfl rfl rfl rfl) rfl ?_
  refine Oy rfl (Yl.pick_false rfl rfl rfl) ?_
  refine Oy rfl (Yl.move rfl) ?_
  refine OW.not (Wn.not rfl rfl rfl rfl) rfl ?_
  refine OW.not (Wn.not rfl rfl rfl rfl) rfl ?_
  refine OW.not (Wn.not rfl rfl rfl rfl) rfl ?_
  refine Oy rfl (Yl.pick_false rfl rfl rfl) ?_
  refine Oy rfl (Yl.assign rfl) ?_
  refine OW.nil ?_
  refine W.ret ?_
  refine Fin.mk (Rsl.one rfl rfl) ⟨?_, rfl⟩ (by repeat constructor) (by repeat constructor)
  refine boolv ?_
  unfold slopeM
  first | (refine t_dec ?_; omega) | (refine f_dec ?_; omega) | (refine decide_eq_decide.2 ?_; omega)

theorem gcd_mod {a b : Int} (hb : 0 ≤ b) (ha : 0 < a) : Int.gcd (b % a) a = Int.gcd a b := by
 obtain ⟨a, rfl⟩ := Int.eq_ofNat_of_zero_le (Int.le_of_lt ha)
 obtain ⟨b, rfl⟩ := Int.eq_ofNat_of_zero_le hb
 rw [← Int.natCast_emod]
 simp only [Int.gcd, Int.natAbs_natCast]
 exact (Nat.gcd_rec a b).symm
theorem div_step {a b : Int} (hb : 0 ≤ b) (ha : 0 < a) : 0 ≤ b.tmod a ∧ b.tmod a < a ∧ Int.gcd (b.tmod a) a = Int.gcd a b := by
 rw [Int.tmod_eq_emod_of_nonneg hb]
 exact ⟨Int.emod_nonneg _ (by omega), Int.emod_lt_of_pos _ ha, gcd_mod hb ha⟩
theorem gcd0 {y : Int} (h : 0 ≤ y) : (Int.gcd 0 y : Int) = y := by simp; omega

theorem c_divisor (a b : Int) (ha : -9223372036854775807 ≤ a) (ha2 : a ≤ 9223372036854775807) (hb : 0 < b) (hb2 : b ≤ 9223372036854775807) : FnV Tryz.prog 142 #[.int .i64 a, .int .i64 b] [] (.int .i64 (Int.gcd a b : Int)) := by
  refine FnC.go (m := 16) Tryz.func142 Tryz.ntmps142 rfl (Nat.le_of_ble_eq_true rfl) (fun Lf => ?_)
  refine Wr ?_
  refine Oy rfl (Yl.assign rfl) ?_
  refine OW.nil ?_
  refine W.jumpI 0 (X := Int × Int) (fun (x : Int × Int) => match x with | (x, y) => 0 ≤ x ∧ x ≤ 9223372036854775807 ∧ 0 ≤ y ∧ y ≤ 9223372036854775807 ∧ Int.gcd x y = Int.gcd a b) (fun (x : Int × Int) => match x with | (x, y) => [(0, .int .i64 x), (1, .int .i64 y)]) (fun (x : Int × Int) => match x with | (x, y) => []) (fun (x : Int × Int) => match x with | (x, y) => ([] ++ Lf)) (fun (x : Int × Int) => match x with | (x, y) => x.toNat) rfl ?_ ?_
  · refine W.seq ?_
    refine Wr ?_
    refine Oy rfl (Yl.move rfl) ?_
    refine Oy rfl (Yl.lss rfl rfl) ?_
    refine OW.nil ?_
    refine W.cond rfl (fun hq1 => ?_) (fun hq1 => ?_)
    · have hq1d := of_decide_eq_true hq1
      refine W.region ?_
      refine Oy rfl (Yl.move rfl) ?_
      refine Oy rfl (Yl.neg rfl (by omega)) ?_
      refine Oy rfl (Yl.assign rfl) ?_
      refine OW.nil ?_
      refine W.seq ?_
      refine W.label ?_
      refine W.seq ?_
      refine Wr ?_
      refine Oy rfl (Yl.move rfl) ?_
      refine Oy rfl (Yl.neq rfl rfl) ?_
      refine OW.nil ?_
      refine W.cond rfl (fun hq2 => ?_) (fun hq2 => ?_)
      · have hq2d := of_decide_eq_true hq2
        refine Wr ?_
        refine Oy rfl (Yl.move rfl) ?_
        refine Oy rfl (Yl.move rfl) ?_
        refine Oy rfl (Yl.rem rfl rfl (by omega) rfl) ?_
        refine Oy rfl (Yl.move rfl) ?_
        refine Oy rfl (Yl.assign rfl) ?_
        refine Oy rfl (Yl.assign rfl) ?_
        refine OW.nil ?_
        refine W.goto ?_
        first
        | (obtain ⟨k1, k2, k3⟩ := div_step (a := -a) (b := b) (by omega) (by omega)
           exact ⟨(b.tmod (-a), -a), ⟨k1, by omega, by omega, by omega, by rw [k3, Int.neg_gcd]⟩, Le.cons rfl (Le.cons rfl (Le.nil _)), rfl, Ent.refl _⟩)
        | (obtain ⟨k1, k2, k3⟩ := div_step (a := a) (b := b) (by omega) (by omega)
           exact ⟨(b.tmod a, a), ⟨k1, by omega, by omega, by omega, k3⟩, Le.cons rfl (Le.cons rfl (Le.nil _)), rfl, Ent.refl _⟩)
      · have hq2d := of_decide_eq_false hq2
        refine W.skip ?_
        refine Wr ?_
        refine Oy rfl (Yl.move rfl) ?_
        refine Oy rfl (Yl.assign rfl) ?_
        refine OW.nil ?_
        refine W.ret ?_
        refine Fin.mk (Rsl.one rfl rfl) ⟨?_, rfl⟩ (by repeat constructor) (by repeat constructor)
        refine intv ?_
        rw [show a = 0 from by omega, gcd0 (by omega)]
    · have hq1d := of_decide_eq_false hq1
      refine W.skip ?_
      refine W.seq ?_
      refine W.label ?_
      refine W.seq ?_
      refine Wr ?_
      refine Oy rfl (Yl.move rfl) ?_
      refine Oy rfl (Yl.neq rfl rfl) ?_
      refine OW.nil ?_
      refine W.cond rfl (fun hq3 => ?_) (fun hq3 => ?_)
      · have hq3d := of_decide_eq_true hq3
        refine Wr ?_
        refine Oy rfl (Yl.move rfl) ?_
        refine Oy rfl (Yl.move rfl) ?_
        refine Oy rfl (Yl.rem rfl rfl (by omega) rfl) ?_
        refine Oy rfl (Yl.move rfl) ?_
        refine Oy rfl (Yl.assign rfl) ?_
        refine Oy rfl (Yl.assign rfl) ?_
        refine OW.nil ?_
        refine W.goto ?_
        first
        | (obtain ⟨k1, k2, k3⟩ := div_step (a := -a) (b := b) (by omega) (by omega)
           exact ⟨(b.tmod (-a), -a), ⟨k1, by omega, by omega, by omega, by rw [k3, Int.neg_gcd]⟩, Le.cons rfl (Le.cons rfl (Le.nil _)), rfl, Ent.refl _⟩)
        | (obtain ⟨k1, k2, k3⟩ := div_step (a := a) (b := b) (by omega) (by omega)
           exact ⟨(b.tmod a, a), ⟨k1, by omega, by omega, by omega, k3⟩, Le.cons rfl (Le.cons rfl (Le.nil _)), rfl, Ent.refl _⟩)
      · have hq3d := of_decide_eq_false hq3
        refine W.skip ?_
        refine Wr ?_
        refine Oy rfl (Yl.move rfl) ?_
        refine Oy rfl (Yl.assign rfl) ?_
        refine OW.nil ?_
        refine W.ret ?_
        refine Fin.mk (Rsl.one rfl rfl) ⟨?_, rfl⟩ (by repeat constructor) (by repeat constructor)
        refine intv ?_
        rw [show a = 0 from by omega, gcd0 (by omega)]
  · rintro ⟨x, y⟩ ⟨i1, i5, i2, i3, i4⟩
    show W _ _ _ _ _ _ [(0, .int .i64 x), (1, .int .i64 y)] [] ([] ++ Lf)
    refine W.seq ?_
    refine W.skip ?_
    refine W.seq ?_
    refine Wr ?_
    refine Oy rfl (Yl.move rfl) ?_
    refine Oy rfl (Yl.neq rfl rfl) ?_
    refine OW.nil ?_
    refine W.cond rfl (fun hq4 => ?_) (fun hq4 => ?_)
    · have hq4d := of_decide_eq_true hq4
      refine Wr ?_
      refine Oy rfl (Yl.move rfl) ?_
      refine Oy rfl (Yl.move rfl) ?_
      refine Oy rfl (Yl.rem rfl rfl (by omega) rfl) ?_
      refine Oy rfl (Yl.move rfl) ?_
      refine Oy rfl (Yl.assign rfl) ?_
      refine Oy rfl (Yl.assign rfl) ?_
      refine OW.nil ?_
      refine W.goto ?_
      obtain ⟨k1, k2, k3⟩ := div_step (a := x) (b := y) (by omega) (by omega)
      exact ⟨(y.tmod x, x), ⟨k1, by omega, by omega, by omega, by rw [k3, i4]⟩, Le.cons rfl (Le.cons rfl (Le.nil _)), rfl, Ent.refl _, by show (y.tmod x).toNat < x.toNat; omega⟩
    · have hq4d := of_decide_eq_false hq4
      refine W.skip ?_
      refine Wr ?_
      refine Oy rfl (Yl.move rfl) ?_
      refine Oy rfl (Yl.assign rfl) ?_
      refine OW.nil ?_
      refine W.ret ?_
      refine Fin.mk (Rsl.one rfl rfl) ⟨?_, rfl⟩ (by repeat constructor) (by repeat constructor)
      refine intv ?_
      rw [← i4, show x = 0 from by omega, gcd0 i2]

theorem gcd_pos {a b : Int} (hb : 0 < b) : 0 < (Int.gcd a b : Int) := by
 have : Int.gcd a b ≠ 0 := by
  intro h
  have h2 : b = 0 := by
   have := Int.gcd_dvd_right a b
   rw [h] at this
   simpa using this
  omega
 omega
theorem lowM_in (s : Slo) (h1 : -9223372036854775807 ≤ s.N) (h1b : s.N ≤ 9223372036854775807) (h2 : 0 < s.D) : (-9223372036854775807 ≤ (lowM s).N ∧ (lowM s).N ≤ 9223372036854775807) ∧ 0 < (lowM s).D ∧ (lowM s).D ≤ s.D := by
 have hp := gcd_pos (a := s.N) h2
 have hd := Int.gcd_dvd_right s.N s.D
 refine ⟨?_, ?_, ?_⟩
 ·show -9223372036854775807 ≤ s.N / (Int.gcd s.N s.D : Int) ∧ s.N / (Int.gcd s.N s.D : Int) ≤ 9223372036854775807
  have e := Int.mul_ediv_cancel' (Int.gcd_dvd_left s.N s.D)
  have h4 : ((s.N / (Int.gcd s.N s.D : Int)).natAbs) ≤ s.N.natAbs := by
   conv => rhs; rw [← e]
   rw [Int.natAbs_mul]
   exact Nat.le_mul_of_pos_left _ (by omega)
  omega
 ·exact Int.ediv_pos_of_pos_of_dvd h2 (by omega) hd
 ·exact Int.ediv_le_self _ (by omega)

theorem c_lowest (s : Slo) (h1 : -9223372036854775807 ≤ s.N) (h1b : s.N ≤ 9223372036854775807) (h2 : 0 < s.D) (h3 : s.D ≤ 9223372036854775807) : FnV Tryz.prog 93 #[.agg (encS s).toArray] [] (.agg (encS (lowM s)).toArray) := by
 refine FnC.go (m := 18) Tryz.func93 Tryz.ntmps93 rfl (Nat.le_of_ble_eq_true rfl) (fun Lf => ?_)
 have hp := gcd_pos (a := s.N) h2
 have hl := lowM_in s h1 h1b h2
 refine Wr ?_
 refine OW.box (Wn.plain rfl) rfl rfl (by constructor) (fun b1 => ?_)
 refine OW.alloc (Wn.plain rfl) rfl Tryz.zeroValue146 (by constructor) (fun b2 => ?_)
 refine OW.nil ?_
 refine Wr ?_
 refine Oy rfl (Yl.fieldL 0 (fa_146_0) rfl rfl) ?_
 refine Oy rfl (Yl.load1 Tryz.isAgg2 rfl (by repeat constructor) (by repeat constructor)) ?_
 refine Oy rfl (Yl.fieldL 1 (fa_146_1) rfl rfl) ?_
 refine Oy rfl (Yl.load1 Tryz.isAgg2 rfl (by repeat constructor) (by repeat constructor)) ?_
 refine OW.callv (Wn.plain rfl) rfl Tryz.call142 rfl (c_divisor _ _ (by omega) (by omega) (by omega) (by omega)) (by repeat constructor) ?_
 refine Oy rfl (Yl.assign rfl) ?_
 refine OW.nil ?_
 refine W.seq ?_
 refine W.draw mixed ?_
 refine Aq (i := 0) rfl (Wn.plain rfl) rfl (fun _ => Yl.fieldL 0 (fa_146_0) rfl rfl) ?_
 refine Al (i := 1) rfl (Wn.plain rfl) rfl (by repeat constructor) (Yl.load1 Tryz.isAgg2 rfl .head (by repeat constructor)) ?_
 refine Aq (i := 2) rfl (Wn.plain rfl) rfl (fun _ => Yl.move rfl) ?_
 refine Aq (i := 3) rfl (Wn.plain rfl) rfl (fun _ => Yl.quo rfl rfl (c := (lowM s).N) (by omega) (by rw [Int.tdiv_eq_ediv_of_dvd (Int.gcd_dvd_left _ _)]; exact wrap_i64 (by have := hl.1.1; show _ ≤ (lowM s).N; omega) hl.1.2)) ?_
 refine Aq (i := 4) rfl (Wn.plain rfl) rfl (fun _ => Yl.fieldL 1 (fa_146_1) rfl rfl) ?_
 refine Al (i := 5) rfl (Wn.plain rfl) rfl (by repeat constructor) (Yl.load1 Tryz.isAgg2 rfl .head (by repeat constructor)) ?_
 refine Aq (i := 6) rfl (Wn.plain rfl) rfl (fun _ => Yl.move rfl) ?_
 refine Aq (i := 7) rfl (Wn.plain rfl) rfl (fun _ => Yl.quo rfl rfl (c := (lowM s).D) (by omega) (by rw [Int.tdiv_eq_ediv_of_dvd (Int.gcd_dvd_right _ _)]; exact wrap_i64 (by show _ ≤ (lowM s).D; omega) (by show (lowM s).D ≤ _; omega))) ?_
 refine Aq (i := 8) rfl (Wn.plain rfl) rfl (fun _ => Yl.build (is := [0, 1]) (xs := [.tmp 12, .tmp 16]) st_146 rfl rfl (by repeat constructor)) ?_
 refine AW.step (i := 9) rfl (by kernel_rfl) (Wn.plain rfl) rfl (Ex.store Tryz.sizeOf146 rfl rfl (by constructor) (by repeat constructor) rfl (by repeat constructor) (by repeat constructor)) (.drop (by kernel_rfl) (.drop (by kernel_rfl) .nil)) ?_
 rintro _ _ rfl; refine ⟨by repeat constructor, ?_⟩
 refine AW.done (by kernel_rfl) ?_
 refine W.ret ?_
 refine Fin.mk (Rsl.of1 rfl (.cell ⟨Tryz.isAgg146, Tryz.sizeOf146⟩ rfl (by repeat constructor) (by repeat constructor))) ⟨?_, rfl⟩ (by repeat constructor) (by repeat constructor)
 rfl
theorem eqT_146 (a0 a1 b0 b1 : Int) (w : World) : (Op.equalIn 10000 146 (.agg #[.int .i64 a0, .int .i64 a1]) (.agg #[.int .i64 b0, .int .i64 b1])).run Tryz.prog w = .ok (a0 == b0 && a1 == b1) w := by
 have hS : Tryz.prog.underlying 146 = some (.struct (Tryz.prog.fieldsOf 146)) := by kernel_rfl
 have hp : Tryz.prog.stoodInHeld 146 = false := by kernel_rfl
 have u2 := Tryz.underlying2
 rw [show (10000 : Nat) = 9999 + 1 from rfl, run_equalIn_agg w 9999 146 _ _ hS hp]
 simp only [Program.fieldsOf, Tryz.underlying146]
 go_simp
 by_cases h0 : a0 = b0 <;> by_cases h1 : a1 = b1 <;> simp [h0, h1]
theorem eqv_146 (s t : Slo) : EqT Tryz.prog 146 (encS s) (encS t) (decide (s = t)) := ⟨by kernel_rfl, fun w => by
 have h := eqT_146 s.N s.D t.N t.D w
 have e : (s.N == t.N && s.D == t.D) = decide (s = t) := by
  rw [Bool.eq_iff_iff]
  obtain ⟨a0, a1⟩ := s; obtain ⟨b0, b1⟩ := t
  simp [and_assoc]
 rw [e] at h
 exact h⟩
theorem eqT_37 (a0 a1 a2 a3 b0 b1 b2 b3 : Int) (w : World) : (Op.equalIn 10000 37 (.agg #[.int .i64 a0, .int .i64 a1, .int .i64 a2, .int .i64 a3]) (.agg #[.int .i64 b0, .int .i64 b1, .int .i64 b2, .int .i64 b3])).run Tryz.prog w = .ok (a0 == b0 && a1 == b1 && a2 == b2 && a3 == b3) w := by
 have hS : Tryz.prog.underlying 37 = some (.struct (Tryz.prog.fieldsOf 37)) := by kernel_rfl
 have hp : Tryz.prog.stoodInHeld 37 = false := by kernel_rfl
 have u2 := Tryz.underlying2
 rw [show (10000 : Nat) = 9999 + 1 from rfl, run_equalIn_agg w 9999 37 _ _ hS hp]
 simp only [Program.fieldsOf, Tryz.underlying37]
 go_simp
 by_cases h0 : a0 = b0 <;> by_cases h1 : a1 = b1 <;> by_cases h2 : a2 = b2 <;> by_cases h3 : a3 = b3 <;> simp [h0, h1, h2, h3]
theorem eqv_37 (s t : Lin) : EqT Tryz.prog 37 (encL s) (encL t) (decide (s = t)) := ⟨by kernel_rfl, fun w => by
 have h := eqT_37 s.A s.R s.N s.D t.A t.R t.N t.D w
 have e : (s.A == t.A && s.R == t.R && s.N == t.N && s.D == t.D) = decide (s = t) := by
  rw [Bool.eq_iff_iff]
  obtain ⟨a0, a1, a2, a3⟩ := s; obtain ⟨b0, b1, b2, b3⟩ := t
  simp [and_assoc]
 rw [e] at h
 exact h⟩

theorem slopeM_t {s : Slo} (h : slopeM s = true) : 1 ≤ s.D ∧ s.D ≤ 281474976710656 ∧ -4611688217450643456 ≤ s.N ∧ s.N ≤ 4611688217450643456 := of_decide_eq_true h
theorem timeM_t {n : Int} (h : timeM n = true) : 0 ≤ n ∧ n ≤ 281474976710656 := of_decide_eq_true h
theorem backM_t {n : Int} (h : backM n = true) : -2305844108725321728 ≤ n ∧ n ≤ 2305844108725321728 := of_decide_eq_true h
def slopeOf (l : Lin) : Slo := ⟨l.N, l.D⟩
theorem lineM_t {l : Lin} (h : lineM l = true) : (-2305844108725321728 ≤ l.A ∧ l.A ≤ 2305844108725321728) ∧ (1 ≤ l.D ∧ l.D ≤ 281474976710656) ∧ (-4611688217450643456 ≤ l.N ∧ l.N ≤ 4611688217450643456) ∧ lowM (slopeOf l) = slopeOf l ∧ 0 ≤ l.R ∧ l.R < l.D := by
 simp only [lineM, Bool.and_eq_true, decide_eq_true_eq] at h
 obtain ⟨⟨⟨⟨h1, h2⟩, h3⟩, h4⟩, h5⟩ := h
 have := slopeM_t h2
 exact ⟨backM_t h1, ⟨this.1, this.2.1⟩, this.2.2, h3, h4, h5⟩

theorem c_Lowest (s : Slo) : FnV Tryz.prog 304 #[.agg (encS s).toArray] [] (.tuple #[.agg (encS (if slopeM s then lowM s else ⟨0, 0⟩)).toArray, .int .i64 (if slopeM s then 0 else 151)]) := by
 refine FnC.go (m := 10) Tryz.func304 Tryz.ntmps304 rfl (Nat.le_of_ble_eq_true rfl) (fun Lf => ?_)
 refine Wr ?_
 refine OW.box (Wn.plain rfl) rfl rfl (by constructor) (fun b1 => ?_)
 refine OW.alloc (Wn.plain rfl) rfl Tryz.zeroValue146 (by constructor) (fun b2 => ?_)
 refine Oy rfl (Yl.assign rfl) ?_
 refine OW.nil ?_
 refine W.seq ?_
 refine Wr ?_
 refine Oy rfl (Yl.load ⟨Tryz.isAgg146, Tryz.sizeOf146⟩ rfl (by repeat constructor) (by repeat constructor)) ?_
 refine OW.callv (Wn.plain rfl) rfl Tryz.call92 rfl (c_slopeIs _) (by repeat constructor) ?_
 refine Oy rfl (Yl.not rfl) ?_
 refine OW.nil ?_
 refine W.cond rfl (fun hq1 => ?_) (fun hq1 => ?_)
 ·have hq1n := not_t hq1
  refine Wr ?_
  refine Oy rfl (Yl.build (is := []) (xs := []) st_146 rfl rfl (by repeat constructor)) ?_
  refine OW.store (Wn.plain rfl) Tryz.sizeOf146 rfl rfl (by constructor) (by repeat constructor) rfl (by repeat constructor) (by repeat constructor) ?_
  refine Oy rfl (Yl.assign rfl) ?_
  refine OW.nil ?_
  refine W.ret ?_
  refine Fin.mk (Rsl.of2 rfl (.cell ⟨Tryz.isAgg146, Tryz.sizeOf146⟩ rfl (by repeat constructor) (by repeat constructor)) (.tmp rfl)) ⟨?_, rfl⟩ (by repeat constructor) (by repeat constructor)
  simp [*, encS]
 ·have hq1n := not_f hq1
  have hs := slopeM_t hq1n
  refine W.skip ?_
  refine Wr ?_
  refine Oy rfl (Yl.load ⟨Tryz.isAgg146, Tryz.sizeOf146⟩ rfl (by repeat constructor) (by repeat constructor)) ?_
  refine OW.callv (Wn.plain rfl) rfl Tryz.call93 rfl (c_lowest _ (by omega) (by omega) (by omega) (by omega)) (by repeat constructor) ?_
  refine OW.store (Wn.plain rfl) Tryz.sizeOf146 rfl rfl (by constructor) (by repeat constructor) rfl (by repeat constructor) (by repeat constructor) ?_
  refine Oy rfl (Yl.assign rfl) ?_
  refine OW.nil ?_
  refine W.ret ?_
  refine Fin.mk (Rsl.of2 rfl (.cell ⟨Tryz.isAgg146, Tryz.sizeOf146⟩ rfl (by repeat constructor) (by repeat constructor)) (.tmp rfl)) ⟨?_, rfl⟩ (by repeat constructor) (by repeat constructor)
  simp [*, encS]
theorem c_aslope (l : Lin) : FnV Tryz.prog 90 #[.agg (encL l).toArray] [] (.agg (encS (slopeOf l)).toArray) := by
 refine FnC.go (m := 10) Tryz.func90 Tryz.ntmps90 rfl (Nat.le_of_ble_eq_true rfl) (fun Lf => ?_)
 refine Wr ?_
 refine OW.box (Wn.plain rfl) rfl rfl (by constructor) (fun b1 => ?_)
 refine OW.alloc (Wn.plain rfl) rfl Tryz.zeroValue146 (by constructor) (fun b2 => ?_)
 refine OW.nil ?_
 refine Wr ?_
 refine Oy rfl (Yl.fieldL 0 (fa_82_0) rfl rfl) ?_
 refine Oy rfl (Yl.fieldL 2 (fa_37_2) rfl rfl) ?_
 refine Oy rfl (Yl.load1 Tryz.isAgg2 rfl (by repeat constructor) (by repeat constructor)) ?_
 refine Oy rfl (Yl.fieldL 0 (fa_82_0) rfl rfl) ?_
 refine Oy rfl (Yl.fieldL 3 (fa_37_3) rfl rfl) ?_
 refine Oy rfl (Yl.load1 Tryz.isAgg2 rfl (by repeat constructor) (by repeat constructor)) ?_
 refine Oy rfl (Yl.build (is := [0, 1]) (xs := [.tmp 5, .tmp 8]) st_146 rfl rfl (by repeat constructor)) ?_
 refine OW.store (Wn.plain rfl) Tryz.sizeOf146 rfl rfl (by constructor) (by repeat constructor) rfl (by repeat constructor) (by repeat constructor) ?_
 refine OW.nil ?_
 refine W.ret ?_
 refine Fin.mk (Rsl.of1 rfl (.cell ⟨Tryz.isAgg146, Tryz.sizeOf146⟩ rfl (by repeat constructor) (by repeat constructor))) ⟨?_, rfl⟩ (by repeat constructor) (by repeat constructor)
 rfl
theorem c_is (l : Lin) : FnV Tryz.prog 46 #[.agg (encL l).toArray] [] (.bool (lineM l)) := by
 refine FnC.go (m := 35) Tryz.func46 Tryz.ntmps46 rfl (Nat.le_of_ble_eq_true rfl) (fun Lf => ?_)
 refine Wr ?_
 refine OW.box (Wn.plain rfl) rfl rfl (by constructor) (fun b1 => ?_)
 refine Oy rfl (Yl.assign rfl) ?_
 refine OW.nil ?_
 refine Wr ?_
 refine Oy rfl (Yl.load ⟨Tryz.isAgg82, Tryz.sizeOf82⟩ rfl (by repeat constructor) (by repeat constructor)) ?_
 refine OW.callv (Wn.plain rfl) rfl Tryz.call90 rfl (c_aslope _) (by repeat constructor) ?_
 refine OW.alloc (Wn.plain rfl) rfl Tryz.zeroValue146 (by constructor) (fun b2 => ?_)
 refine OW.store (Wn.plain rfl) Tryz.sizeOf146 rfl rfl (by constructor) (by repeat constructor) rfl (by repeat constructor) (by repeat constructor) ?_
 refine OW.nil ?_
 refine W.seq ?_
 refine W.draw mixed ?_
 refine Aq (i := 0) rfl (Wn.plain rfl) rfl (fun _ => Yl.fieldL 0 (fa_82_0) rfl rfl) ?_
 refine Aq (i := 1) rfl (Wn.plain rfl) rfl (fun _ => Yl.fieldL 0 (fa_37_0) rfl rfl) ?_
 refine Al (i := 2) rfl (Wn.plain rfl) rfl (by repeat constructor) (Yl.load1 Tryz.isAgg2 rfl .head (by repeat constructor)) ?_
 refine AW.step (i := 3) rfl (by kernel_rfl) (Wn.plain rfl) rfl (Ex.call rfl rfl rfl (FnC.tri0 Tryz.call91 (c_lback _)) (by repeat constructor)) (.drop (by kernel_rfl) .nil) ?_
 rintro _ _ ⟨_, ⟨rfl, rfl⟩, rfl⟩; refine ⟨by repeat constructor, ?_⟩
 refine Aq (i := 4) rfl (Wn.plain rfl) rfl (fun _ => Yl.move rfl) ?_
 refine AW.split (t := 10) rfl (fun hq1 => ?_) (fun hq1 => ?_)
 ·refine Al (i := 5) rfl (Wn.run rfl rfl rfl hq1) rfl (by repeat constructor) (Yl.load ⟨Tryz.isAgg146, Tryz.sizeOf146⟩ rfl .head (by repeat constructor)) ?_
  refine AW.step (i := 6) rfl (by kernel_rfl) (Wn.run rfl rfl rfl hq1) rfl (Ex.call rfl rfl rfl (FnC.tri0 Tryz.call92 (c_slopeIs _)) (by repeat constructor)) (.drop (by kernel_rfl) .nil) ?_
  rintro _ _ ⟨_, ⟨rfl, rfl⟩, rfl⟩; refine ⟨by repeat constructor, ?_⟩
  refine Aq (i := 7) rfl (Wn.plain rfl) rfl (fun _ => Yl.pick_true rfl hq1 rfl) ?_
  refine Aq (i := 8) rfl (Wn.plain rfl) rfl (fun _ => Yl.move rfl) ?_
  refine AW.split (t := 14) rfl (fun hq2 => ?_) (fun hq2 => ?_)
  ·have hs := slopeM_t hq2
   refine Al (i := 9) rfl (Wn.run rfl rfl rfl hq2) rfl (by repeat constructor) (Yl.load ⟨Tryz.isAgg146, Tryz.sizeOf146⟩ rfl .head (by repeat constructor)) ?_
   refine Al (i := 11) rfl (Wn.run rfl rfl rfl hq2) rfl (by repeat constructor) (Yl.load ⟨Tryz.isAgg146, Tryz.sizeOf146⟩ rfl .head (by repeat constructor)) ?_
   refine AW.step (i := 10) rfl (by kernel_rfl) (Wn.run rfl rfl rfl hq2) rfl (Ex.call rfl rfl rfl (FnC.tri0 Tryz.call93 (c_lowest _ (by omega) (by omega) (by omega) (by omega))) (by repeat constructor)) (.keep (by kernel_rfl) (.drop (by kernel_rfl) .nil)) ?_
   rintro _ _ ⟨_, ⟨rfl, rfl⟩, rfl⟩; refine ⟨by repeat constructor, ?_⟩
   refine Aq (i := 12) rfl (Wn.run rfl rfl rfl hq2) rfl (fun _ => Yl.eqst (eqv_146 (lowM (slopeOf l)) (slopeOf l)) rfl rfl) ?_
   refine Aq (i := 13) rfl (Wn.plain rfl) rfl (fun _ => Yl.pick_true rfl hq2 rfl) ?_
   refine Aq (i := 14) rfl (Wn.plain rfl) rfl (fun _ => Yl.move rfl) ?_
   refine AW.split (t := 20) rfl (fun hq3 => ?_) (fun hq3 => ?_)
   ·have hq3d := of_decide_eq_true hq3
    refine Aq (i := 15) rfl (Wn.run rfl rfl rfl hq3) rfl (fun _ => Yl.fieldL 0 (fa_82_0) rfl rfl) ?_
    refine Aq (i := 16) rfl (Wn.run rfl rfl rfl hq3) rfl (fun _ => Yl.fieldL 1 (fa_37_1) rfl rfl) ?_
    refine Al (i := 17) rfl (Wn.run rfl rfl rfl hq3) rfl (by repeat constructor) (Yl.load1 Tryz.isAgg2 rfl .head (by repeat constructor)) ?_
    refine Aq (i := 18) rfl (Wn.run rfl rfl rfl hq3) rfl (fun _ => Yl.geq rfl rfl) ?_
    refine Aq (i := 19) rfl (Wn.plain rfl) rfl (fun _ => Yl.pick_true rfl hq3 rfl) ?_
    refine Aq (i := 20) rfl (Wn.plain rfl) rfl (fun _ => Yl.move rfl) ?_
    refine AW.split (t := 26) rfl (fun hq4 => ?_) (fun hq4 => ?_)
    ·have hq4d := of_decide_eq_true hq4
     refine Aq (i := 21) rfl (Wn.run rfl rfl rfl hq4) rfl (fun _ => Yl.fieldL 0 (fa_82_0) rfl rfl) ?_
     refine Aq (i := 22) rfl (Wn.run rfl rfl rfl hq4) rfl (fun _ => Yl.fieldL 1 (fa_37_1) rfl rfl) ?_
     refine Al (i := 23) rfl (Wn.run rfl rfl rfl hq4) rfl (by repeat constructor) (Yl.load1 Tryz.isAgg2 rfl .head (by repeat constructor)) ?_
     refine Aq (i := 24) rfl (Wn.run rfl rfl rfl hq4) rfl (fun _ => Yl.fieldL 0 (fa_82_0) rfl rfl) ?_
     refine Aq (i := 25) rfl (Wn.run rfl rfl rfl hq4) rfl (fun _ => Yl.fieldL 3 (fa_37_3) rfl rfl) ?_
     refine Al (i := 26) rfl (Wn.run rfl rfl rfl hq4) rfl (by repeat constructor) (Yl.load1 Tryz.isAgg2 rfl .head (by repeat constructor)) ?_
     refine Aq (i := 27) rfl (Wn.run rfl rfl rfl hq4) rfl (fun _ => Yl.lss rfl rfl) ?_
     refine Aq (i := 28) rfl (Wn.plain rfl) rfl (fun _ => Yl.pick_true rfl hq4 rfl) ?_
     refine Aq (i := 29) rfl (Wn.plain rfl) rfl (fun _ => Yl.assign rfl) ?_
     refine AW.done (by kernel_rfl) ?_
     refine W.ret ?_
     refine Fin.mk (Rsl.one rfl rfl) ⟨?_, rfl⟩ (by repeat constructor) (by repeat constructor)
     refine boolv ?_
     unfold lineM
     simp_all [slopeOf] <;> omega
    ·have hq4d := of_decide_eq_false hq4
     refine AW.not (i := 21) rfl (by kernel_rfl) (by kernel_rfl) (by kernel_rfl) (Wn.not rfl rfl rfl hq4) rfl ?_
     refine AW.not (i := 22) rfl (by kernel_rfl) (by kernel_rfl) (by kernel_rfl) (Wn.not rfl rfl rfl hq4) rfl ?_
     refine AW.not (i := 23) rfl (by kernel_rfl) (by kernel_rfl) (by kernel_rfl) (Wn.not rfl rfl rfl hq4) rfl ?_
     refine AW.not (i := 24) rfl (by kernel_rfl) (by kernel_rfl) (by kernel_rfl) (Wn.not rfl rfl rfl hq4) rfl ?_
     refine AW.not (i := 25) rfl (by kernel_rfl) (by kernel_rfl) (by kernel_rfl) (Wn.not rfl rfl rfl hq4) rfl ?_
     refine AW.not (i := 26) rfl (by kernel_rfl) (by kernel_rfl) (by kernel_rfl) (Wn.not rfl rfl rfl hq4) rfl ?_
     refine AW.not (i := 27) rfl (by kernel_rfl) (by kernel_rfl) (by kernel_rfl) (Wn.not rfl rfl rfl hq4) rfl ?_
     refine Aq (i := 28) rfl (Wn.plain rfl) rfl (fun _ => Yl.pick_false rfl hq4 rfl) ?_
     refine Aq (i := 29) rfl (Wn.plain rfl) rfl (fun _ => Yl.assign rfl) ?_
     refine AW.done (by kernel_rfl) ?_
     refine W.ret ?_
     refine Fin.mk (Rsl.one rfl rfl) ⟨?_, rfl⟩ (by repeat constructor) (by repeat constructor)
     refine boolv ?_
     unfold lineM
     simp_all [slopeOf] <;> omega
   ·have hq3d := of_decide_eq_false hq3
    refine AW.not (i := 15) rfl (by kernel_rfl) (by kernel_rfl) (by kernel_rfl) (Wn.not rfl rfl rfl hq3) rfl ?_
    refine AW.not (i := 16) rfl (by kernel_rfl) (by kernel_rfl) (by kernel_rfl) (Wn.not rfl rfl rfl hq3) rfl ?_
    refine AW.not (i := 17) rfl (by kernel_rfl) (by kernel_rfl) (by kernel_rfl) (Wn.not rfl rfl rfl hq3) rfl ?_
    refine AW.not (i := 18) rfl (by kernel_rfl) (by kernel_rfl) (by kernel_rfl) (Wn.not rfl rfl rfl hq3) rfl ?_
    refine Aq (i := 19) rfl (Wn.plain rfl) rfl (fun _ => Yl.pick_false rfl hq3 rfl) ?_
    refine Aq (i := 20) rfl (Wn.plain rfl) rfl (fun _ => Yl.move rfl) ?_
    refine AW.not (i := 21) rfl (by kernel_rfl) (by kernel_rfl) (by kernel_rfl) (Wn.not rfl rfl rfl rfl) rfl ?_
    refine AW.not (i := 22) rfl (by kernel_rfl) (by kernel_rfl) (by kernel_rfl) (Wn.not rfl rfl rfl rfl) rfl ?_
    refine AW.not (i := 23) rfl (by kernel_rfl) (by kernel_rfl) (by kernel_rfl) (Wn.not rfl rfl rfl rfl) rfl ?_
    refine AW.not (i := 24) rfl (by kernel_rfl) (by kernel_rfl) (by kernel_rfl) (Wn.not rfl rfl rfl rfl) rfl ?_
    refine AW.not (i := 25) rfl (by kernel_rfl) (by kernel_rfl) (by kernel_rfl) (Wn.not rfl rfl rfl rfl) rfl ?_
    refine AW.not (i := 26) rfl (by kernel_rfl) (by kernel_rfl) (by kernel_rfl) (Wn.not rfl rfl rfl rfl) rfl ?_
    refine AW.not (i := 27) rfl (by kernel_rfl) (by kernel_rfl) (by kernel_rfl) (Wn.not rfl rfl rfl rfl) rfl ?_
    refine Aq (i := 28) rfl (Wn.plain rfl) rfl (fun _ => Yl.pick_false rfl rfl rfl) ?_
    refine Aq (i := 29) rfl (Wn.plain rfl) rfl (fun _ => Yl.assign rfl) ?_
    refine AW.done (by kernel_rfl) ?_
    refine W.ret ?_
    refine Fin.mk (Rsl.one rfl rfl) ⟨?_, rfl⟩ (by repeat constructor) (by repeat constructor)
    refine boolv ?_
    unfold lineM
    simp_all [slopeOf] <;> omega
  ·refine AW.not (i := 9) rfl (by kernel_rfl) (by kernel_rfl) (by kernel_rfl) (Wn.not rfl rfl rfl hq2) rfl ?_
   refine AW.not (i := 10) rfl (by kernel_rfl) (by kernel_rfl) (by kernel_rfl) (Wn.not rfl rfl rfl hq2) rfl ?_
   refine AW.not (i := 11) rfl (by kernel_rfl) (by kernel_rfl) (by kernel_rfl) (Wn.not rfl rfl rfl hq2) rfl ?_
   refine AW.not (i := 12) rfl (by kernel_rfl) (by kernel_rfl) (by kernel_rfl) (Wn.not rfl rfl rfl hq2) rfl ?_
   refine Aq (i := 13) rfl (Wn.plain rfl) rfl (fun _ => Yl.pick_false rfl hq2 rfl) ?_
   refine Aq (i := 14) rfl (Wn.plain rfl) rfl (fun _ => Yl.move rfl) ?_
   refine AW.not (i := 15) rfl (by kernel_rfl) (by kernel_rfl) (by kernel_rfl) (Wn.not rfl rfl rfl rfl) rfl ?_
   refine AW.not (i := 16) rfl (by kernel_rfl) (by kernel_rfl) (by kernel_rfl) (Wn.not rfl rfl rfl rfl) rfl ?_
   refine AW.not (i := 17) rfl (by kernel_rfl) (by kernel_rfl) (by kernel_rfl) (Wn.not rfl rfl rfl rfl) rfl ?_
   refine AW.not (i := 18) rfl (by kernel_rfl) (by kernel_rfl) (by kernel_rfl) (Wn.not rfl rfl rfl rfl) rfl ?_
   refine Aq (i := 19) rfl (Wn.plain rfl) rfl (fun _ => Yl.pick_false rfl rfl rfl) ?_
   refine Aq (i := 20) rfl (Wn.plain rfl) rfl (fun _ => Yl.move rfl) ?_
   refine AW.not (i := 21) rfl (by kernel_rfl) (by kernel_rfl) (by kernel_rfl) (Wn.not rfl rfl rfl rfl) rfl ?_
   refine AW.not (i := 22) rfl (by kernel_rfl) (by kernel_rfl) (by kernel_rfl) (Wn.not rfl rfl rfl rfl) rfl ?_
   refine AW.not (i := 23) rfl (by kernel_rfl) (by kernel_rfl) (by kernel_rfl) (Wn.not rfl rfl rfl rfl) rfl ?_
   refine AW.not (i := 24) rfl (by kernel_rfl) (by kernel_rfl) (by kernel_rfl) (Wn.not rfl rfl rfl rfl) rfl ?_
   refine AW.not (i := 25) rfl (by kernel_rfl) (by kernel_rfl) (by kernel_rfl) (Wn.not rfl rfl rfl rfl) rfl ?_
   refine AW.not (i := 26) rfl (by kernel_rfl) (by kernel_rfl) (by kernel_rfl) (Wn.not rfl rfl rfl rfl) rfl ?_
   refine AW.not (i := 27) rfl (by kernel_rfl) (by kernel_rfl) (by kernel_rfl) (Wn.not rfl rfl rfl rfl) rfl ?_
   refine Aq (i := 28) rfl (Wn.plain rfl) rfl (fun _ => Yl.pick_false rfl rfl rfl) ?_
   refine Aq (i := 29) rfl (Wn.plain rfl) rfl (fun _ => Yl.assign rfl) ?_
   refine AW.done (by kernel_rfl) ?_
   refine W.ret ?_
   refine Fin.mk (Rsl.one rfl rfl) ⟨?_, rfl⟩ (by repeat constructor) (by repeat constructor)
   refine boolv ?_
   unfold lineM
   simp_all [slopeOf] <;> omega
 ·refine AW.not (i := 5) rfl (by kernel_rfl) (by kernel_rfl) (by kernel_rfl) (Wn.not rfl rfl rfl hq1) rfl ?_
  refine AW.not (i := 6) rfl (by kernel_rfl) (by kernel_rfl) (by kernel_rfl) (Wn.not rfl rfl rfl hq1) rfl ?_
  refine Aq (i := 7) rfl (Wn.plain rfl) rfl (fun _ => Yl.pick_false rfl hq1 rfl) ?_
  refine Aq (i := 8) rfl (Wn.plain rfl) rfl (fun _ => Yl.move rfl) ?_
  refine AW.not (i := 9) rfl (by kernel_rfl) (by kernel_rfl) (by kernel_rfl) (Wn.not rfl rfl rfl rfl) rfl ?_
  refine AW.not (i := 10) rfl (by kernel_rfl) (by kernel_rfl) (by kernel_rfl) (Wn.not rfl rfl rfl rfl) rfl ?_
  refine AW.not (i := 11) rfl (by kernel_rfl) (by kernel_rfl) (by kernel_rfl) (Wn.not rfl rfl rfl rfl) rfl ?_
  refine AW.not (i := 12) rfl (by kernel_rfl) (by kernel_rfl) (by kernel_rfl) (Wn.not rfl rfl rfl rfl) rfl ?_
  refine Aq (i := 13) rfl (Wn.plain rfl) rfl (fun _ => Yl.pick_false rfl rfl rfl) ?_
  refine Aq (i := 14) rfl (Wn.plain rfl) rfl (fun _ => Yl.move rfl) ?_
  refine AW.not (i := 15) rfl (by kernel_rfl) (by kernel_rfl) (by kernel_rfl) (Wn.not rfl rfl rfl rfl) rfl ?_
  refine AW.not (i := 16) rfl (by kernel_rfl) (by kernel_rfl) (by kernel_rfl) (Wn.not rfl rfl rfl rfl) rfl ?_
  refine AW.not (i := 17) rfl (by kernel_rfl) (by kernel_rfl) (by kernel_rfl) (Wn.not rfl rfl rfl rfl) rfl ?_
  refine AW.not (i := 18) rfl (by kernel_rfl) (by kernel_rfl) (by kernel_rfl) (Wn.not rfl rfl rfl rfl) rfl ?_
  refine Aq (i := 19) rfl (Wn.plain rfl) rfl (fun _ => Yl.pick_false rfl rfl rfl) ?_
  refine Aq (i := 20) rfl (Wn.plain rfl) rfl (fun _ => Yl.move rfl) ?_
  refine AW.not (i := 21) rfl (by kernel_rfl) (by kernel_rfl) (by kernel_rfl) (Wn.not rfl rfl rfl rfl) rfl ?_
  refine AW.not (i := 22) rfl (by kernel_rfl) (by kernel_rfl) (by kernel_rfl) (Wn.not rfl rfl rfl rfl) rfl ?_
  refine AW.not (i := 23) rfl (by kernel_rfl) (by kernel_rfl) (by kernel_rfl) (Wn.not rfl rfl rfl rfl) rfl ?_
  refine AW.not (i := 24) rfl (by kernel_rfl) (by kernel_rfl) (by kernel_rfl) (Wn.not rfl rfl rfl rfl) rfl ?_
  refine AW.not (i := 25) rfl (by kernel_rfl) (by kernel_rfl) (by kernel_rfl) (Wn.not rfl rfl rfl rfl) rfl ?_
  refine AW.not (i := 26) rfl (by kernel_rfl) (by kernel_rfl) (by kernel_rfl) (Wn.not rfl rfl rfl rfl) rfl ?_
  refine AW.not (i := 27) rfl (by kernel_rfl) (by kernel_rfl) (by kernel_rfl) (Wn.not rfl rfl rfl rfl) rfl ?_
  refine Aq (i := 28) rfl (Wn.plain rfl) rfl (fun _ => Yl.pick_false rfl rfl rfl) ?_
  refine Aq (i := 29) rfl (Wn.plain rfl) rfl (fun _ => Yl.assign rfl) ?_
  refine AW.done (by kernel_rfl) ?_
  refine W.ret ?_
  refine Fin.mk (Rsl.one rfl rfl) ⟨?_, rfl⟩ (by repeat constructor) (by repeat constructor)
  refine boolv ?_
  unfold lineM
  simp_all [slopeOf] <;> omega

theorem div_bd {n D B : Int} (hD : 1 ≤ D) (hB : 0 ≤ B) (h1 : -B ≤ n) (h2 : n ≤ B) : -B ≤ n / D ∧ n / D ≤ B := by
 constructor
 ·refine Int.le_ediv_of_mul_le (by omega) ?_
  have : B * 1 ≤ B * D := Int.mul_le_mul_of_nonneg_left hD hB
  rw [Int.neg_mul]; omega
 ·rcases (by omega : n < 0 ∨ 0 ≤ n) with h | h
  ·have := Int.ediv_neg_of_neg_of_pos h (show 0 < D by omega); omega
  ·have := Int.ediv_le_self D h; omega
theorem over_in {l : Lin} {dt : Int} (hl : lineM l = true) (hd : timeM dt = true) :
  (-85070591730234615865843651857942052864 ≤ l.N * dt ∧ l.N * dt ≤ 85070591730234615865843651857942052864) ∧ InW (l.N * dt) ∧ InW l.R ∧ InW (l.N * dt + l.R) ∧ InW ((l.N * dt + l.R) / l.D) ∧ InW l.A ∧ InW ((l.N * dt + l.R) / l.D + l.A) := by
 have h := lineM_t hl
 have h2 := timeM_t hd
 have h3 := mul_bound (a := l.N) (b := dt) (by omega) (by omega) (by omega) (by omega)
 have h4 := div_bd (n := l.N * dt + l.R) (D := l.D) (B := 85070591730234615865843651857942052864 + 281474976710656) (by omega) (by omega) (by omega) (by omega)
 unfold InW
 omega
theorem overM_in {l : Lin} {dt : Int} (hl : lineM l = true) (hd : timeM dt = true) : InW (overM l dt) := (over_in hl hd).2.2.2.2.2.2
def tupE (v e : Int) : Value := .tuple #[.int .i64 v, .int .i64 e]
def valV (l : Lin) (dt : Int) : Int := if backM (overM l dt) then overM l dt else 0
def valE (l : Lin) (dt : Int) : Int := if backM (overM l dt) then 0 else 5

theorem c_over (l : Lin) (dt : Int) (hl : lineM l = true) (hd : timeM dt = true) : FnV Tryz.prog 48 #[.agg (encL l).toArray, .int .i64 dt] [] (.tuple #[.agg (encW (overM l dt)).toArray, .int .i64 (restM l dt)]) := by
 refine FnC.go (m := 46) Tryz.func48 Tryz.ntmps48 rfl (Nat.le_of_ble_eq_true rfl) (fun Lf => ?_)
 have h := lineM_t hl
 have ht := timeM_t hd
 obtain ⟨g1, g2, g3, g4, g5, g6, g7⟩ := over_in hl hd
 refine Wr ?_
 refine OW.box (Wn.plain rfl) rfl rfl (by constructor) (fun b1 => ?_)
 refine OW.alloc (Wn.plain rfl) rfl Tryz.zeroValue85 (by constructor) (fun b2 => ?_)
 refine Oy rfl (Yl.assign rfl) ?_
 refine OW.nil ?_
 refine W.seqS (X := (Nat)) (R0 := []) (fun (b : (Nat)) => (True : Prop)) (fun (b : (Nat)) => ([(6, .pointer (some ⟨b, 0, none⟩))] : Env)) (fun (b : (Nat)) => ([.cell b (encW (l.N * dt + l.R)) 85] : List Res)) [(2, _), (4, _), (5, _)] (Le.cons rfl (Le.cons rfl (Le.cons rfl (Le.nil _)))) (by repeat constructor) ?_ ?_
 ·refine W.draw mixed ?_
  refine Aq (i := 0) rfl (Wn.plain rfl) rfl (fun _ => Yl.fieldL 0 (fa_82_0) rfl rfl) ?_
  refine Aq (i := 1) rfl (Wn.plain rfl) rfl (fun _ => Yl.fieldL 2 (fa_37_2) rfl rfl) ?_
  refine Al (i := 2) rfl (Wn.plain rfl) rfl (by repeat constructor) (Yl.load1 Tryz.isAgg2 rfl .head (by repeat constructor)) ?_
  refine Aq (i := 3) rfl (Wn.plain rfl) rfl (fun _ => Yl.move rfl) ?_
  refine Aq (i := 5) rfl (Wn.plain rfl) rfl (fun _ => Yl.fieldL 0 (fa_82_0) rfl rfl) ?_
  refine Aq (i := 6) rfl (Wn.plain rfl) rfl (fun _ => Yl.fieldL 1 (fa_37_1) rfl rfl) ?_
  refine Al (i := 7) rfl (Wn.plain rfl) rfl (by repeat constructor) (Yl.load1 Tryz.isAgg2 rfl .head (by repeat constructor)) ?_
  refine AW.two 4 13 (by kernel_rfl) ?_ ?_
  ·refine AWi.step (i := 4) rfl (Wn.plain rfl) rfl (Ex.call rfl rfl rfl (FnC.tri0 Tryz.call95 (c_Mul _ _ (by omega) (by omega) (by omega) (by omega))) (by repeat constructor)) (.keep (by kernel_rfl) (.drop (by kernel_rfl) .nil)) ?_
   rintro _ _ ⟨_, ⟨rfl, rfl⟩, rfl⟩; refine ⟨by repeat constructor, ?_⟩
   refine AW.two 8 13 (by kernel_rfl) ?_ ?_
   ·refine AWi.step (i := 8) rfl (Wn.plain rfl) rfl (Ex.call rfl rfl rfl (FnC.tri0 Tryz.call50 (c_Of _ (by omega) (by omega))) (by repeat constructor)) (.drop (by kernel_rfl) .nil) ?_
    rintro _ _ ⟨_, ⟨rfl, rfl⟩, rfl⟩; refine ⟨by repeat constructor, ?_⟩
    refine AW.two 9 13 (by kernel_rfl) ?_ ?_
    ·refine AWi.step (i := 9) rfl (Wn.plain rfl) rfl (Ex.call rfl rfl rfl (FnC.tri0 Tryz.call94 (c_Add _ _ (by assumption) (by assumption) (by assumption))) (by repeat constructor)) .nil ?_
     rintro _ _ ⟨_, ⟨rfl, rfl⟩, rfl⟩; refine ⟨by repeat constructor, ?_⟩
     refine Aq (i := 10) rfl (Wn.plain rfl) rfl (fun _ => Yl.move rfl) ?_
     refine Aq (i := 11) rfl (Wn.plain rfl) rfl (fun _ => Yl.extract rfl (by repeat constructor)) ?_
     refine Aq (i := 12) rfl (Wn.plain rfl) rfl (fun _ => Yl.extract rfl (by repeat constructor)) ?_
     refine AW.step (i := 13) rfl (by kernel_rfl) (Wn.plain rfl) rfl (Ex.alloc Tryz.zeroValue85 (by constructor)) .nil ?_
     rintro _ _ ⟨b3, rfl, rfl⟩; refine ⟨by repeat constructor, ?_⟩
     refine AW.step (i := 14) rfl (by kernel_rfl) (Wn.plain rfl) rfl (Ex.store Tryz.sizeOf85 rfl rfl (by constructor) (by repeat constructor) rfl (by repeat constructor) (by repeat constructor)) .nil ?_
     rintro _ _ rfl; refine ⟨by repeat constructor, ?_⟩
     refine Aq (i := 15) rfl (Wn.plain rfl) rfl (fun _ => Yl.assign rfl) ?_
     refine AW.done (by kernel_rfl) ?_
     refine ⟨_, _, ?_, (Le.cons rfl (Le.cons rfl (Le.cons rfl (Le.cons rfl (Le.nil _))))), rfl, by repeat constructor, by repeat constructor⟩
     trivial
    ·refine AWi.step (i := 13) rfl (Wn.plain rfl) rfl (Ex.alloc Tryz.zeroValue85 (by constructor)) .nil ?_
     rintro _ _ ⟨b4, rfl, rfl⟩; refine ⟨by repeat constructor, ?_⟩
     refine AW.step (i := 9) rfl (by kernel_rfl) (Wn.plain rfl) rfl (Ex.call rfl rfl rfl (FnC.tri0 Tryz.call94 (c_Add _ _ (by assumption) (by assumption) (by assumption))) (by repeat constructor)) .nil ?_
     rintro _ _ ⟨_, ⟨rfl, rfl⟩, rfl⟩; refine ⟨by repeat constructor, ?_⟩
     refine Aq (i := 10) rfl (Wn.plain rfl) rfl (fun _ => Yl.move rfl) ?_
     refine Aq (i := 11) rfl (Wn.plain rfl) rfl (fun _ => Yl.extract rfl (by repeat constructor)) ?_
     refine Aq (i := 12) rfl (Wn.plain rfl) rfl (fun _ => Yl.extract rfl (by repeat constructor)) ?_
     refine AW.step (i := 14) rfl (by kernel_rfl) (Wn.plain rfl) rfl (Ex.store Tryz.sizeOf85 rfl rfl (by constructor) (by repeat constructor) rfl (by repeat constructor) (by repeat constructor)) .nil ?_
     rintro _ _ rfl; refine ⟨by repeat constructor, ?_⟩
     refine Aq (i := 15) rfl (Wn.plain rfl) rfl (fun _ => Yl.assign rfl) ?_
     refine AW.done (by kernel_rfl) ?_
     refine ⟨_, _, ?_, (Le.cons rfl (Le.cons rfl (Le.cons rfl (Le.cons rfl (Le.nil _))))), rfl, by repeat constructor, by repeat constructor⟩
     trivial
   ·refine AWi.step (i := 13) rfl (Wn.plain rfl) rfl (Ex.alloc Tryz.zeroValue85 (by constructor)) (.keep (by kernel_rfl) .nil) ?_
    rintro _ _ ⟨b5, rfl, rfl⟩; refine ⟨by repeat constructor, ?_⟩
    refine AW.step (i := 8) rfl (by kernel_rfl) (Wn.plain rfl) rfl (Ex.call rfl rfl rfl (FnC.tri0 Tryz.call50 (c_Of _ (by omega) (by omega))) (by repeat constructor)) (.drop (by kernel_rfl) .nil) ?_
    rintro _ _ ⟨_, ⟨rfl, rfl⟩, rfl⟩; refine ⟨by repeat constructor, ?_⟩
    refine AW.step (i := 9) rfl (by kernel_rfl) (Wn.plain rfl) rfl (Ex.call rfl rfl rfl (FnC.tri0 Tryz.call94 (c_Add _ _ (by assumption) (by assumption) (by assumption))) (by repeat constructor)) .nil ?_
    rintro _ _ ⟨_, ⟨rfl, rfl⟩, rfl⟩; refine ⟨by repeat constructor, ?_⟩
    refine Aq (i := 10) rfl (Wn.plain rfl) rfl (fun _ => Yl.move rfl) ?_
    refine Aq (i := 11) rfl (Wn.plain rfl) rfl (fun _ => Yl.extract rfl (by repeat constructor)) ?_
    refine Aq (i := 12) rfl (Wn.plain rfl) rfl (fun _ => Yl.extract rfl (by repeat constructor)) ?_
    refine AW.step (i := 14) rfl (by kernel_rfl) (Wn.plain rfl) rfl (Ex.store Tryz.sizeOf85 rfl rfl (by constructor) (by repeat constructor) rfl (by repeat constructor) (by repeat constructor)) .nil ?_
    rintro _ _ rfl; refine ⟨by repeat constructor, ?_⟩
    refine Aq (i := 15) rfl (Wn.plain rfl) rfl (fun _ => Yl.assign rfl) ?_
    refine AW.done (by kernel_rfl) ?_
    refine ⟨_, _, ?_, (Le.cons rfl (Le.cons rfl (Le.cons rfl (Le.cons rfl (Le.nil _))))), rfl, by repeat constructor, by repeat constructor⟩
    trivial
  ·refine AWi.step (i := 13) rfl (Wn.plain rfl) rfl (Ex.alloc Tryz.zeroValue85 (by constructor)) (.keep (by kernel_rfl) (.keep (by kernel_rfl) .nil)) ?_
   rintro _ _ ⟨b6, rfl, rfl⟩; refine ⟨by repeat constructor, ?_⟩
   refine AW.step (i := 4) rfl (by kernel_rfl) (Wn.plain rfl) rfl (Ex.call rfl rfl rfl (FnC.tri0 Tryz.call95 (c_Mul _ _ (by omega) (by omega) (by omega) (by omega))) (by repeat constructor)) (.keep (by kernel_rfl) (.drop (by kernel_rfl) .nil)) ?_
   rintro _ _ ⟨_, ⟨rfl, rfl⟩, rfl⟩; refine ⟨by repeat constructor, ?_⟩
   refine AW.step (i := 8) rfl (by kernel_rfl) (Wn.plain rfl) rfl (Ex.call rfl rfl rfl (FnC.tri0 Tryz.call50 (c_Of _ (by omega) (by omega))) (by repeat constructor)) (.drop (by kernel_rfl) .nil) ?_
   rintro _ _ ⟨_, ⟨rfl, rfl⟩, rfl⟩; refine ⟨by repeat constructor, ?_⟩
   refine AW.step (i := 9) rfl (by kernel_rfl) (Wn.plain rfl) rfl (Ex.call rfl rfl rfl (FnC.tri0 Tryz.call94 (c_Add _ _ (by assumption) (by assumption) (by assumption))) (by repeat constructor)) .nil ?_
   rintro _ _ ⟨_, ⟨rfl, rfl⟩, rfl⟩; refine ⟨by repeat constructor, ?_⟩
   refine Aq (i := 10) rfl (Wn.plain rfl) rfl (fun _ => Yl.move rfl) ?_
   refine Aq (i := 11) rfl (Wn.plain rfl) rfl (fun _ => Yl.extract rfl (by repeat constructor)) ?_
   refine Aq (i := 12) rfl (Wn.plain rfl) rfl (fun _ => Yl.extract rfl (by repeat constructor)) ?_
   refine AW.step (i := 14) rfl (by kernel_rfl) (Wn.plain rfl) rfl (Ex.store Tryz.sizeOf85 rfl rfl (by constructor) (by repeat constructor) rfl (by repeat constructor) (by repeat constructor)) .nil ?_
   rintro _ _ rfl; refine ⟨by repeat constructor, ?_⟩
   refine Aq (i := 15) rfl (Wn.plain rfl) rfl (fun _ => Yl.assign rfl) ?_
   refine AW.done (by kernel_rfl) ?_
   refine ⟨_, _, ?_, (Le.cons rfl (Le.cons rfl (Le.cons rfl (Le.cons rfl (Le.nil _))))), rfl, by repeat constructor, by repeat constructor⟩
   trivial
 ·rintro b hcut
  show W _ _ _ _ _ _ ([(6, .pointer (some ⟨b, 0, none⟩))] ++ _) _ ([.cell b (encW (l.N * dt + l.R)) 85] ++ _)
  refine Wr ?_
  refine Oy rfl (Yl.load ⟨Tryz.isAgg85, Tryz.sizeOf85⟩ rfl (by repeat constructor) (by repeat constructor)) ?_
  refine Oy rfl (Yl.fieldL 0 (fa_82_0) rfl rfl) ?_
  refine Oy rfl (Yl.fieldL 3 (fa_37_3) rfl rfl) ?_
  refine Oy rfl (Yl.load1 Tryz.isAgg2 rfl (by repeat constructor) (by repeat constructor)) ?_
  refine OW.callv (Wn.plain rfl) rfl Tryz.call96 rfl (c_Div _ _ (by assumption) (by omega) (by omega)) (by repeat constructor) ?_
  refine Oy rfl (Yl.move rfl) ?_
  refine Oy rfl (Yl.extract rfl (by repeat constructor)) ?_
  refine Oy rfl (Yl.extract rfl (by repeat constructor)) ?_
  refine Oy rfl (Yl.extract rfl (by repeat constructor)) ?_
  refine OW.alloc (Wn.plain rfl) rfl Tryz.zeroValue85 (by constructor) (fun b7 => ?_)
  refine OW.store (Wn.plain rfl) Tryz.sizeOf85 rfl rfl (by constructor) (by repeat constructor) rfl (by repeat constructor) (by repeat constructor) ?_
  refine Oy rfl (Yl.assign rfl) ?_
  refine Oy rfl (Yl.assign rfl) ?_
  refine OW.nil ?_
  refine W.seqS (X := (Nat)) (R0 := []) (fun (b : (Nat)) => (True : Prop)) (fun (b : (Nat)) => ([(11, .pointer (some ⟨b, 0, none⟩))] : Env)) (fun (b : (Nat)) => ([.cell b (encW (overM l dt)) 85] : List Res)) [(4, _), (5, _), (9, _)] (Le.cons rfl (Le.cons rfl (Le.cons rfl (Le.nil _)))) (by repeat constructor) ?_ ?_
  ·refine W.draw mixed ?_
   refine Al (i := 0) rfl (Wn.plain rfl) rfl (by repeat constructor) (Yl.load ⟨Tryz.isAgg85, Tryz.sizeOf85⟩ rfl .head (by repeat constructor)) ?_
   refine Aq (i := 1) rfl (Wn.plain rfl) rfl (fun _ => Yl.fieldL 0 (fa_82_0) rfl rfl) ?_
   refine Aq (i := 2) rfl (Wn.plain rfl) rfl (fun _ => Yl.fieldL 0 (fa_37_0) rfl rfl) ?_
   refine Al (i := 3) rfl (Wn.plain rfl) rfl (by repeat constructor) (Yl.load1 Tryz.isAgg2 rfl .head (by repeat constructor)) ?_
   refine AW.two 4 9 (by kernel_rfl) ?_ ?_
   ·refine AWi.step (i := 4) rfl (Wn.plain rfl) rfl (Ex.call rfl rfl rfl (FnC.tri0 Tryz.call50 (c_Of _ (by omega) (by omega))) (by repeat constructor)) (.drop (by kernel_rfl) (.keep (by kernel_rfl) .nil)) ?_
    rintro _ _ ⟨_, ⟨rfl, rfl⟩, rfl⟩; refine ⟨by repeat constructor, ?_⟩
    refine AW.two 5 9 (by kernel_rfl) ?_ ?_
    ·refine AWi.step (i := 5) rfl (Wn.plain rfl) rfl (Ex.call rfl rfl rfl (FnC.tri0 Tryz.call94 (c_Add _ _ (by assumption) (by assumption) (by assumption))) (by repeat constructor)) (.drop (by kernel_rfl) .nil) ?_
     rintro _ _ ⟨_, ⟨rfl, rfl⟩, rfl⟩; refine ⟨by repeat constructor, ?_⟩
     refine Aq (i := 6) rfl (Wn.plain rfl) rfl (fun _ => Yl.move rfl) ?_
     refine Aq (i := 7) rfl (Wn.plain rfl) rfl (fun _ => Yl.extract rfl (by repeat constructor)) ?_
     refine Aq (i := 8) rfl (Wn.plain rfl) rfl (fun _ => Yl.extract rfl (by repeat constructor)) ?_
     refine AW.step (i := 9) rfl (by kernel_rfl) (Wn.plain rfl) rfl (Ex.alloc Tryz.zeroValue85 (by constructor)) .nil ?_
     rintro _ _ ⟨b8, rfl, rfl⟩; refine ⟨by repeat constructor, ?_⟩
     refine AW.step (i := 10) rfl (by kernel_rfl) (Wn.plain rfl) rfl (Ex.store Tryz.sizeOf85 rfl rfl (by constructor) (by repeat constructor) rfl (by repeat constructor) (by repeat constructor)) .nil ?_
     rintro _ _ rfl; refine ⟨by repeat constructor, ?_⟩
     refine Aq (i := 11) rfl (Wn.plain rfl) rfl (fun _ => Yl.assign rfl) ?_
     refine AW.done (by kernel_rfl) ?_
     refine ⟨_, _, ?_, (Le.cons rfl (Le.cons rfl (Le.cons rfl (Le.cons rfl (Le.nil _))))), rfl, by repeat constructor, by repeat constructor⟩
     trivial
    ·refine AWi.step (i := 9) rfl (Wn.plain rfl) rfl (Ex.alloc Tryz.zeroValue85 (by constructor)) (.keep (by kernel_rfl) .nil) ?_
     rintro _ _ ⟨b9, rfl, rfl⟩; refine ⟨by repeat constructor, ?_⟩
     refine AW.step (i := 5) rfl (by kernel_rfl) (Wn.plain rfl) rfl (Ex.call rfl rfl rfl (FnC.tri0 Tryz.call94 (c_Add _ _ (by assumption) (by assumption) (by assumption))) (by repeat constructor)) (.drop (by kernel_rfl) .nil) ?_
     rintro _ _ ⟨_, ⟨rfl, rfl⟩, rfl⟩; refine ⟨by repeat constructor, ?_⟩
     refine Aq (i := 6) rfl (Wn.plain rfl) rfl (fun _ => Yl.move rfl) ?_
     refine Aq (i := 7) rfl (Wn.plain rfl) rfl (fun _ => Yl.extract rfl (by repeat constructor)) ?_
     refine Aq (i := 8) rfl (Wn.plain rfl) rfl (fun _ => Yl.extract rfl (by repeat constructor)) ?_
     refine AW.step (i := 10) rfl (by kernel_rfl) (Wn.plain rfl) rfl (Ex.store Tryz.sizeOf85 rfl rfl (by constructor) (by repeat constructor) rfl (by repeat constructor) (by repeat constructor)) .nil ?_
     rintro _ _ rfl; refine ⟨by repeat constructor, ?_⟩
     refine Aq (i := 11) rfl (Wn.plain rfl) rfl (fun _ => Yl.assign rfl) ?_
     refine AW.done (by kernel_rfl) ?_
     refine ⟨_, _, ?_, (Le.cons rfl (Le.cons rfl (Le.cons rfl (Le.cons rfl (Le.nil _))))), rfl, by repeat constructor, by repeat constructor⟩
     trivial
   ·refine AWi.step (i := 9) rfl (Wn.plain rfl) rfl (Ex.alloc Tryz.zeroValue85 (by constructor)) (.keep (by kernel_rfl) (.keep (by kernel_rfl) .nil)) ?_
    rintro _ _ ⟨b10, rfl, rfl⟩; refine ⟨by repeat constructor, ?_⟩
    refine AW.step (i := 4) rfl (by kernel_rfl) (Wn.plain rfl) rfl (Ex.call rfl rfl rfl (FnC.tri0 Tryz.call50 (c_Of _ (by omega) (by omega))) (by repeat constructor)) (.drop (by kernel_rfl) (.keep (by kernel_rfl) .nil)) ?_
    rintro _ _ ⟨_, ⟨rfl, rfl⟩, rfl⟩; refine ⟨by repeat constructor, ?_⟩
    refine AW.step (i := 5) rfl (by kernel_rfl) (Wn.plain rfl) rfl (Ex.call rfl rfl rfl (FnC.tri0 Tryz.call94 (c_Add _ _ (by assumption) (by assumption) (by assumption))) (by repeat constructor)) (.drop (by kernel_rfl) .nil) ?_
    rintro _ _ ⟨_, ⟨rfl, rfl⟩, rfl⟩; refine ⟨by repeat constructor, ?_⟩
    refine Aq (i := 6) rfl (Wn.plain rfl) rfl (fun _ => Yl.move rfl) ?_
    refine Aq (i := 7) rfl (Wn.plain rfl) rfl (fun _ => Yl.extract rfl (by repeat constructor)) ?_
    refine Aq (i := 8) rfl (Wn.plain rfl) rfl (fun _ => Yl.extract rfl (by repeat constructor)) ?_
    refine AW.step (i := 10) rfl (by kernel_rfl) (Wn.plain rfl) rfl (Ex.store Tryz.sizeOf85 rfl rfl (by constructor) (by repeat constructor) rfl (by repeat constructor) (by repeat constructor)) .nil ?_
    rintro _ _ rfl; refine ⟨by repeat constructor, ?_⟩
    refine Aq (i := 11) rfl (Wn.plain rfl) rfl (fun _ => Yl.assign rfl) ?_
    refine AW.done (by kernel_rfl) ?_
    refine ⟨_, _, ?_, (Le.cons rfl (Le.cons rfl (Le.cons rfl (Le.cons rfl (Le.nil _))))), rfl, by repeat constructor, by repeat constructor⟩
    trivial
  ·rintro b hcut
   show W _ _ _ _ _ _ ([(11, .pointer (some ⟨b, 0, none⟩))] ++ _) _ ([.cell b (encW (overM l dt)) 85] ++ _)
   refine Wr ?_
   refine Oy rfl (Yl.load ⟨Tryz.isAgg85, Tryz.sizeOf85⟩ rfl (by repeat constructor) (by repeat constructor)) ?_
   refine Oy rfl (Yl.move rfl) ?_
   refine OW.store (Wn.plain rfl) Tryz.sizeOf85 rfl rfl (by constructor) (by repeat constructor) rfl (by repeat constructor) (by repeat constructor) ?_
   refine Oy rfl (Yl.assign rfl) ?_
   refine OW.nil ?_
   refine W.ret ?_
   refine Fin.mk (Rsl.of2 rfl (.cell ⟨Tryz.isAgg85, Tryz.sizeOf85⟩ rfl (by repeat constructor) (by repeat constructor)) (.tmp rfl)) ⟨?_, rfl⟩ (by repeat constructor) (by repeat constructor)
   rfl
theorem c_value (l : Lin) (dt : Int) (hl : lineM l = true) (hd : timeM dt = true) : FnV Tryz.prog 231 #[.agg (encL l).toArray, .int .i64 dt] [] (tupE (valV l dt) (valE l dt)) := by
 refine FnC.go (m := 29) Tryz.func231 Tryz.ntmps231 rfl (Nat.le_of_ble_eq_true rfl) (fun Lf => ?_)
 refine Wr ?_
 refine OW.box (Wn.plain rfl) rfl rfl (by constructor) (fun b1 => ?_)
 refine Oy rfl (Yl.assign rfl) ?_
 refine Oy rfl (Yl.assign rfl) ?_
 refine OW.nil ?_
 refine Wr ?_
 refine Oy rfl (Yl.load ⟨Tryz.isAgg82, Tryz.sizeOf82⟩ rfl (by repeat constructor) (by repeat constructor)) ?_
 refine Oy rfl (Yl.move rfl) ?_
 refine OW.callv (Wn.plain rfl) rfl Tryz.call48 rfl (c_over _ _ (by assumption) (by assumption)) (by repeat constructor) ?_
 refine Oy rfl (Yl.move rfl) ?_
 refine Oy rfl (Yl.extract rfl (by repeat constructor)) ?_
 refine Oy rfl (Yl.extract rfl (by repeat constructor)) ?_
 refine OW.alloc (Wn.plain rfl) rfl Tryz.zeroValue85 (by constructor) (fun b2 => ?_)
 refine OW.store (Wn.plain rfl) Tryz.sizeOf85 rfl rfl (by constructor) (by repeat constructor) rfl (by repeat constructor) (by repeat constructor) ?_
 refine Oy rfl (Yl.assign rfl) ?_
 refine OW.nil ?_
 refine Wr ?_
 refine Oy rfl (Yl.load ⟨Tryz.isAgg85, Tryz.sizeOf85⟩ rfl (by repeat constructor) (by repeat constructor)) ?_
 refine OW.callv (Wn.plain rfl) rfl Tryz.call246 rfl (c_Int _ (overM_in hl hd)) (by repeat constructor) ?_
 refine Oy rfl (Yl.move rfl) ?_
 refine Oy rfl (Yl.extract rfl (by repeat constructor)) ?_
 refine Oy rfl (Yl.extract rfl (by repeat constructor)) ?_
 refine Oy rfl (Yl.assign rfl) ?_
 refine Oy rfl (Yl.assign rfl) ?_
 refine OW.nil ?_
 refine W.seq ?_
 refine Wr ?_
 refine Oy rfl (Yl.move rfl) ?_
 refine Oy rfl (Yl.neq rfl rfl) ?_
 refine Oy rfl (Yl.move rfl) ?_
 refine OW.split (t := 23) rfl (fun hq1 => ?_) (fun hq1 => ?_)
 ·have hq1d := of_decide_eq_true hq1
  refine OW.not (Wn.not rfl rfl rfl hq1) rfl ?_
  refine OW.not (Wn.not rfl rfl rfl hq1) rfl ?_
  refine OW.not (Wn.not rfl rfl rfl hq1) rfl ?_
  refine Oy rfl (Yl.pick_true rfl hq1 rfl) ?_
  refine OW.nil ?_
  refine W.cond_true rfl ?_
  refine Wr ?_
  refine Oy rfl (Yl.assign rfl) ?_
  refine Oy rfl (Yl.assign rfl) ?_
  refine OW.nil ?_
  refine W.ret ?_
  refine Fin.mk (Rsl.two rfl rfl rfl) ⟨?_, rfl⟩ (by repeat constructor) (by repeat constructor)
  refine tup2i ?_ ?_
  ·unfold valV; have hb := @backM_t (overM l dt); simp_all <;> (try split) <;> (try simp_all [backM]) <;> omega
  ·unfold valE; have hb := @backM_t (overM l dt); simp_all <;> (try split) <;> (try simp_all [backM]) <;> omega
 ·have hq1d := of_decide_eq_false hq1
  refine OW.yl (Wn.run rfl rfl rfl hq1) rfl (Yl.move rfl) ?_
  refine OW.callv (Wn.run rfl rfl rfl hq1) rfl Tryz.call91 rfl (c_lback _) (by repeat constructor) ?_
  refine OW.yl (Wn.run rfl rfl rfl hq1) rfl (Yl.not rfl) ?_
  refine Oy rfl (Yl.pick_false rfl hq1 rfl) ?_
  refine OW.nil ?_
  refine W.cond rfl (fun hq2 => ?_) (fun hq2 => ?_)
  ·have hq2n := not_t hq2
   refine Wr ?_
   refine Oy rfl (Yl.assign rfl) ?_
   refine Oy rfl (Yl.assign rfl) ?_
   refine OW.nil ?_
   refine W.ret ?_
   refine Fin.mk (Rsl.two rfl rfl rfl) ⟨?_, rfl⟩ (by repeat constructor) (by repeat constructor)
   refine tup2i ?_ ?_
   ·unfold valV; have hb := @backM_t (overM l dt); simp_all <;> (try split) <;> (try simp_all [backM]) <;> omega
   ·unfold valE; have hb := @backM_t (overM l dt); simp_all <;> (try split) <;> (try simp_all [backM]) <;> omega
  ·have hq2n := not_f hq2
   refine W.skip ?_
   refine Wr ?_
   refine Oy rfl (Yl.move rfl) ?_
   refine Oy rfl (Yl.assign rfl) ?_
   refine Oy rfl (Yl.assign rfl) ?_
   refine OW.nil ?_
   refine W.ret ?_
   refine Fin.mk (Rsl.two rfl rfl rfl) ⟨?_, rfl⟩ (by repeat constructor) (by repeat constructor)
   refine tup2i ?_ ?_
   ·unfold valV; have hb := @backM_t (overM l dt); simp_all <;> (try split) <;> (try simp_all [backM]) <;> omega
   ·unfold valE; have hb := @backM_t (overM l dt); simp_all <;> (try split) <;> (try simp_all [backM]) <;> omega
theorem c_lCheck (l : Lin) : FnV Tryz.prog 250 #[.agg (encL l).toArray] [] (.int .i64 (if lineM l then 0 else 150)) := by
 refine FnC.go (m := 7) Tryz.func250 Tryz.ntmps250 rfl (Nat.le_of_ble_eq_true rfl) (fun Lf => ?_)
 refine Wr ?_
 refine OW.box (Wn.plain rfl) rfl rfl (by constructor) (fun b1 => ?_)
 refine Oy rfl (Yl.assign rfl) ?_
 refine OW.nil ?_
 refine W.seq ?_
 refine Wr ?_
 refine Oy rfl (Yl.load ⟨Tryz.isAgg37, Tryz.sizeOf37⟩ rfl (by repeat constructor) (by repeat constructor)) ?_
 refine Oy rfl (Yl.build (is := [0]) (xs := [.tmp 3]) st_82 rfl rfl (by repeat constructor)) ?_
 refine OW.callv (Wn.plain rfl) rfl Tryz.call46 rfl (c_is _) (by repeat constructor) ?_
 refine Oy rfl (Yl.not rfl) ?_
 refine OW.nil ?_
 refine W.cond rfl (fun hq1 => ?_) (fun hq1 => ?_)
 ·have hq1n := not_t hq1
  refine Wr ?_
  refine Oy rfl (Yl.assign rfl) ?_
  refine OW.nil ?_
  refine W.ret ?_
  refine Fin.mk (Rsl.one rfl rfl) ⟨?_, rfl⟩ (by repeat constructor) (by repeat constructor)
  simp_all
 ·have hq1n := not_f hq1
  refine W.skip ?_
  refine Wr ?_
  refine Oy rfl (Yl.assign rfl) ?_
  refine OW.nil ?_
  refine W.ret ?_
  refine Fin.mk (Rsl.one rfl rfl) ⟨?_, rfl⟩ (by repeat constructor) (by repeat constructor)
  simp_all
theorem c_At (l : Lin) (dt : Int) : FnV Tryz.prog 171 #[.agg (encL l).toArray, .int .i64 dt] [] ((if lineM l then (if timeM dt then tupE (valV l dt) (valE l dt) else tupE 0 2) else tupE 0 150)) := by
 refine FnC.go (m := 22) Tryz.func171 Tryz.ntmps171 rfl (Nat.le_of_ble_eq_true rfl) (fun Lf => ?_)
 refine Wr ?_
 refine OW.box (Wn.plain rfl) rfl rfl (by constructor) (fun b1 => ?_)
 refine Oy rfl (Yl.assign rfl) ?_
 refine Oy rfl (Yl.assign rfl) ?_
 refine OW.nil ?_
 refine Wr ?_
 refine Oy rfl (Yl.load ⟨Tryz.isAgg37, Tryz.sizeOf37⟩ rfl (by repeat constructor) (by repeat constructor)) ?_
 refine Oy rfl (Yl.build (is := [0]) (xs := [.tmp 7]) st_82 rfl rfl (by repeat constructor)) ?_
 refine OW.alloc (Wn.plain rfl) rfl Tryz.zeroValue82 (by constructor) (fun b2 => ?_)
 refine OW.store (Wn.plain rfl) Tryz.sizeOf82 rfl rfl (by constructor) (by repeat constructor) rfl (by repeat constructor) (by repeat constructor) ?_
 refine OW.nil ?_
 refine W.block ?_
 refine Wr ?_
 refine Oy rfl (Yl.load ⟨Tryz.isAgg82, Tryz.sizeOf82⟩ rfl (by repeat constructor) (by repeat constructor)) ?_
 refine OW.callv (Wn.plain rfl) rfl Tryz.call46 rfl (c_is _) (by repeat constructor) ?_
 refine Oy rfl (Yl.not rfl) ?_
 refine Oy rfl (Yl.assign rfl) ?_
 refine OW.nil ?_
 refine W.cond rfl (fun hq1 => ?_) (fun hq1 => ?_)
 ·have hq1n := not_t hq1
  refine Wr ?_
  refine Oy rfl (Yl.assign rfl) ?_
  refine Oy rfl (Yl.assign rfl) ?_
  refine OW.nil ?_
  refine W.ret ?_
  refine Fin.mk (Rsl.two rfl rfl rfl) ⟨?_, rfl⟩ (by repeat constructor) (by repeat constructor)
  simp_all [tupE]
 ·have hq1n := not_f hq1
  refine Wr ?_
  refine Oy rfl (Yl.move rfl) ?_
  refine OW.callv (Wn.plain rfl) rfl Tryz.call47 rfl (c_timeIs _) (by repeat constructor) ?_
  refine Oy rfl (Yl.not rfl) ?_
  refine Oy rfl (Yl.assign rfl) ?_
  refine OW.nil ?_
  refine W.cond rfl (fun hq2 => ?_) (fun hq2 => ?_)
  ·have hq2n := not_t hq2
   refine Wr ?_
   refine Oy rfl (Yl.assign rfl) ?_
   refine Oy rfl (Yl.assign rfl) ?_
   refine OW.nil ?_
   refine W.ret ?_
   refine Fin.mk (Rsl.two rfl rfl rfl) ⟨?_, rfl⟩ (by repeat constructor) (by repeat constructor)
   simp_all [tupE]
  ·have hq2n := not_f hq2
   refine Wr ?_
   refine Oy rfl (Yl.load ⟨Tryz.isAgg82, Tryz.sizeOf82⟩ rfl (by repeat constructor) (by repeat constructor)) ?_
   refine Oy rfl (Yl.move rfl) ?_
   refine OW.callv (Wn.plain rfl) rfl Tryz.call231 rfl (c_value _ _ (by assumption) (by assumption)) (by repeat constructor) ?_
   refine Oy rfl (Yl.extract rfl (by repeat constructor)) ?_
   refine Oy rfl (Yl.extract rfl (by repeat constructor)) ?_
   refine Oy rfl (Yl.assign rfl) ?_
   refine Oy rfl (Yl.assign rfl) ?_
   refine OW.nil ?_
   refine W.ret ?_
   refine Fin.mk (Rsl.two rfl rfl rfl) ⟨?_, rfl⟩ (by repeat constructor) (by repeat constructor)
   simp_all [tupE]

def withinM (l : Lin) (dt lo hi : Int) : Bool := lineM l && timeM dt && decide (lo ≤ overM l dt) && (decide (overM l dt < hi) || (decide (overM l dt = hi) && decide (restM l dt = 0)))
theorem cmpI_cases (a b : Int) : (a = b ∧ cmpI a b = 0) ∨ (a < b ∧ cmpI a b = -1) ∨ (b < a ∧ cmpI a b = 1) := by unfold cmpI; (repeat' split) <;> omega
def cmpS (a b : Slo) : Int := cmpI (a.N * b.D) (b.N * a.D)

theorem c_Within (l : Lin) (dt lo hi : Int) (h1 : -9223372036854775808 ≤ lo) (h2 : lo ≤ 9223372036854775807) (h3 : -9223372036854775808 ≤ hi) (h4 : hi ≤ 9223372036854775807) : FnV Tryz.prog 17 #[.agg (encL l).toArray, .int .i64 dt, .int .i64 lo, .int .i64 hi] [] (.bool (withinM l dt lo hi)) := by
 refine FnC.go (m := 50) Tryz.func17 Tryz.ntmps17 rfl (Nat.le_of_ble_eq_true rfl) (fun Lf => ?_)
 refine Wr ?_
 refine OW.box (Wn.plain rfl) rfl rfl (by constructor) (fun b1 => ?_)
 refine Oy rfl (Yl.assign rfl) ?_
 refine OW.nil ?_
 refine Wr ?_
 refine Oy rfl (Yl.load ⟨Tryz.isAgg37, Tryz.sizeOf37⟩ rfl (by repeat constructor) (by repeat constructor)) ?_
 refine Oy rfl (Yl.build (is := [0]) (xs := [.tmp 13]) st_82 rfl rfl (by repeat constructor)) ?_
 refine OW.alloc (Wn.plain rfl) rfl Tryz.zeroValue82 (by constructor) (fun b2 => ?_)
 refine OW.store (Wn.plain rfl) Tryz.sizeOf82 rfl rfl (by constructor) (by repeat constructor) rfl (by repeat constructor) (by repeat constructor) ?_
 refine OW.nil ?_
 refine W.seq ?_
 refine Wr ?_
 refine Oy rfl (Yl.load ⟨Tryz.isAgg82, Tryz.sizeOf82⟩ rfl (by repeat constructor) (by repeat constructor)) ?_
 refine OW.callv (Wn.plain rfl) rfl Tryz.call46 rfl (c_is _) (by repeat constructor) ?_
 refine Oy rfl (Yl.not rfl) ?_
 refine Oy rfl (Yl.move rfl) ?_
 refine OW.split (t := 18) rfl (fun hq1 => ?_) (fun hq1 => ?_)
 ·have hq1n := not_t hq1
  refine OW.not (Wn.not rfl rfl rfl hq1) rfl ?_
  refine OW.not (Wn.not rfl rfl rfl hq1) rfl ?_
  refine OW.not (Wn.not rfl rfl rfl hq1) rfl ?_
  refine Oy rfl (Yl.pick_true rfl hq1 rfl) ?_
  refine OW.nil ?_
  refine W.cond_true rfl ?_
  refine Wr ?_
  refine Oy rfl (Yl.assign rfl) ?_
  refine OW.nil ?_
  refine W.ret ?_
  refine Fin.mk (Rsl.one rfl rfl) ⟨?_, rfl⟩ (by repeat constructor) (by repeat constructor)
  refine boolv ?_
  have k1 := cmpI_cases (overM l dt) lo
  have k2 := cmpI_cases (overM l dt) hi
  unfold withinM
  simp_all <;> omega
 ·have hq1n := not_f hq1
  refine OW.yl (Wn.run rfl rfl rfl hq1) rfl (Yl.move rfl) ?_
  refine OW.callv (Wn.run rfl rfl rfl hq1) rfl Tryz.call47 rfl (c_timeIs _) (by repeat constructor) ?_
  refine OW.yl (Wn.run rfl rfl rfl hq1) rfl (Yl.not rfl) ?_
  refine Oy rfl (Yl.pick_false rfl hq1 rfl) ?_
  refine OW.nil ?_
  refine W.cond rfl (fun hq2 => ?_) (fun hq2 => ?_)
  ·have hq2n := not_t hq2
   refine Wr ?_
   refine Oy rfl (Yl.assign rfl) ?_
   refine OW.nil ?_
   refine W.ret ?_
   refine Fin.mk (Rsl.one rfl rfl) ⟨?_, rfl⟩ (by repeat constructor) (by repeat constructor)
   refine boolv ?_
   have k1 := cmpI_cases (overM l dt) lo
   have k2 := cmpI_cases (overM l dt) hi
   unfold withinM
   simp_all <;> omega
  ·have hq2n := not_f hq2
   refine W.skip ?_
   refine Wr ?_
   refine Oy rfl (Yl.load ⟨Tryz.isAgg82, Tryz.sizeOf82⟩ rfl (by repeat constructor) (by repeat constructor)) ?_
   refine Oy rfl (Yl.move rfl) ?_
   refine OW.callv (Wn.plain rfl) rfl Tryz.call48 rfl (c_over _ _ (by assumption) (by assumption)) (by repeat constructor) ?_
   refine Oy rfl (Yl.move rfl) ?_
   refine Oy rfl (Yl.extract rfl (by repeat constructor)) ?_
   refine Oy rfl (Yl.extract rfl (by repeat constructor)) ?_
   refine OW.alloc (Wn.plain rfl) rfl Tryz.zeroValue85 (by constructor) (fun b3 => ?_)
   refine OW.store (Wn.plain rfl) Tryz.sizeOf85 rfl rfl (by constructor) (by repeat constructor) rfl (by repeat constructor) (by repeat constructor) ?_
   refine Oy rfl (Yl.assign rfl) ?_
   refine OW.nil ?_
   refine W.seq ?_
   refine W.draw mixed ?_
   refine Al (i := 0) rfl (Wn.plain rfl) rfl (by repeat constructor) (Yl.load ⟨Tryz.isAgg85, Tryz.sizeOf85⟩ rfl .head (by repeat constructor)) ?_
   refine Aq (i := 1) rfl (Wn.plain rfl) rfl (fun _ => Yl.move rfl) ?_
   refine AW.step (i := 2) rfl (by kernel_rfl) (Wn.plain rfl) rfl (Ex.call rfl rfl rfl (FnC.tri0 Tryz.call50 (c_Of _ (by omega) (by omega))) (by repeat constructor)) (.keep (by kernel_rfl) .nil) ?_
   rintro _ _ ⟨_, ⟨rfl, rfl⟩, rfl⟩; refine ⟨by repeat constructor, ?_⟩
   refine AW.step (i := 3) rfl (by kernel_rfl) (Wn.plain rfl) rfl (Ex.call rfl rfl rfl (FnC.tri0 Tryz.call49 (c_Compare _ _)) (by repeat constructor)) (.drop (by kernel_rfl) .nil) ?_
   rintro _ _ ⟨_, ⟨rfl, rfl⟩, rfl⟩; refine ⟨by repeat constructor, ?_⟩
   refine Aq (i := 4) rfl (Wn.plain rfl) rfl (fun _ => Yl.assign rfl) ?_
   refine AW.done (by kernel_rfl) ?_
   refine W.seq ?_
   refine W.draw mixed ?_
   refine Al (i := 0) rfl (Wn.plain rfl) rfl (by repeat constructor) (Yl.load ⟨Tryz.isAgg85, Tryz.sizeOf85⟩ rfl .head (by repeat constructor)) ?_
   refine Aq (i := 1) rfl (Wn.plain rfl) rfl (fun _ => Yl.move rfl) ?_
   refine AW.step (i := 2) rfl (by kernel_rfl) (Wn.plain rfl) rfl (Ex.call rfl rfl rfl (FnC.tri0 Tryz.call50 (c_Of _ (by omega) (by omega))) (by repeat constructor)) (.keep (by kernel_rfl) .nil) ?_
   rintro _ _ ⟨_, ⟨rfl, rfl⟩, rfl⟩; refine ⟨by repeat constructor, ?_⟩
   refine AW.step (i := 3) rfl (by kernel_rfl) (Wn.plain rfl) rfl (Ex.call rfl rfl rfl (FnC.tri0 Tryz.call49 (c_Compare _ _)) (by repeat constructor)) (.drop (by kernel_rfl) .nil) ?_
   rintro _ _ ⟨_, ⟨rfl, rfl⟩, rfl⟩; refine ⟨by repeat constructor, ?_⟩
   refine Aq (i := 4) rfl (Wn.plain rfl) rfl (fun _ => Yl.geq rfl rfl) ?_
   refine Aq (i := 5) rfl (Wn.plain rfl) rfl (fun _ => Yl.move rfl) ?_
   refine AW.split (t := 38) rfl (fun hq3 => ?_) (fun hq3 => ?_)
   ·have hq3d := of_decide_eq_true hq3
    refine Aq (i := 6) rfl (Wn.run rfl rfl rfl hq3) rfl (fun _ => Yl.move rfl) ?_
    refine Aq (i := 7) rfl (Wn.run rfl rfl rfl hq3) rfl (fun _ => Yl.lss rfl rfl) ?_
    refine Aq (i := 8) rfl (Wn.run rfl rfl rfl hq3) rfl (fun _ => Yl.move rfl) ?_
    refine AW.split (t := 41) rfl (fun hq4 => ?_) (fun hq4 => ?_)
    ·have hq4d := of_decide_eq_true hq4
     refine AW.not (i := 9) rfl (by kernel_rfl) (by kernel_rfl) (by kernel_rfl) (Wn.not rfl rfl rfl hq4) rfl ?_
     refine AW.not (i := 10) rfl (by kernel_rfl) (by kernel_rfl) (by kernel_rfl) (Wn.not rfl rfl rfl hq4) rfl ?_
     refine AW.not (i := 11) rfl (by kernel_rfl) (by kernel_rfl) (by kernel_rfl) (Wn.not rfl rfl rfl hq4) rfl ?_
     refine AW.not (i := 12) rfl (by kernel_rfl) (by kernel_rfl) (by kernel_rfl) (Wn.nob rfl rfl rfl) rfl ?_
     refine AW.not (i := 13) rfl (by kernel_rfl) (by kernel_rfl) (by kernel_rfl) (Wn.nob rfl rfl rfl) rfl ?_
     refine AW.not (i := 14) rfl (by kernel_rfl) (by kernel_rfl) (by kernel_rfl) (Wn.not rfl rfl rfl hq4) rfl ?_
     refine Aq (i := 15) rfl (Wn.run rfl rfl rfl hq3) rfl (fun _ => Yl.pick_true rfl hq4 rfl) ?_
     refine Aq (i := 16) rfl (Wn.plain rfl) rfl (fun _ => Yl.pick_true rfl hq3 rfl) ?_
     refine Aq (i := 17) rfl (Wn.plain rfl) rfl (fun _ => Yl.assign rfl) ?_
     refine AW.done (by kernel_rfl) ?_
     refine W.ret ?_
     refine Fin.mk (Rsl.one rfl rfl) ⟨?_, rfl⟩ (by repeat constructor) (by repeat constructor)
     refine boolv ?_
     have k1 := cmpI_cases (overM l dt) lo
     have k2 := cmpI_cases (overM l dt) hi
     unfold withinM
     simp_all <;> omega
    ·have hq4d := of_decide_eq_false hq4
     refine Aq (i := 9) rfl (Wn.run rfl rfl rfl hq4) rfl (fun _ => Yl.move rfl) ?_
     refine Aq (i := 10) rfl (Wn.run rfl rfl rfl hq4) rfl (fun _ => Yl.eql rfl rfl) ?_
     refine Aq (i := 11) rfl (Wn.run rfl rfl rfl hq4) rfl (fun _ => Yl.move rfl) ?_
     refine AW.split (t := 44) rfl (fun hq5 => ?_) (fun hq5 => ?_)
     ·have hq5d := of_decide_eq_true hq5
      refine Aq (i := 12) rfl (Wn.run rfl rfl rfl hq5) rfl (fun _ => Yl.move rfl) ?_
      refine Aq (i := 13) rfl (Wn.run rfl rfl rfl hq5) rfl (fun _ => Yl.eql rfl rfl) ?_
      refine Aq (i := 14) rfl (Wn.run rfl rfl rfl hq4) rfl (fun _ => Yl.pick_true rfl hq5 rfl) ?_
      refine Aq (i := 15) rfl (Wn.run rfl rfl rfl hq3) rfl (fun _ => Yl.pick_false rfl hq4 rfl) ?_
      refine Aq (i := 16) rfl (Wn.plain rfl) rfl (fun _ => Yl.pick_true rfl hq3 rfl) ?_
      refine Aq (i := 17) rfl (Wn.plain rfl) rfl (fun _ => Yl.assign rfl) ?_
      refine AW.done (by kernel_rfl) ?_
      refine W.ret ?_
      refine Fin.mk (Rsl.one rfl rfl) ⟨?_, rfl⟩ (by repeat constructor) (by repeat constructor)
      refine boolv ?_
      have k1 := cmpI_cases (overM l dt) lo
      have k2 := cmpI_cases (overM l dt) hi
      unfold withinM
      simp_all <;> omega
     ·have hq5d := of_decide_eq_false hq5
      refine AW.not (i := 12) rfl (by kernel_rfl) (by kernel_rfl) (by kernel_rfl) (Wn.not rfl rfl rfl hq5) rfl ?_
      refine AW.not (i := 13) rfl (by kernel_rfl) (by kernel_rfl) (by kernel_rfl) (Wn.not rfl rfl rfl hq5) rfl ?_
      refine Aq (i := 14) rfl (Wn.run rfl rfl rfl hq4) rfl (fun _ => Yl.pick_false rfl hq5 rfl) ?_
      refine Aq (i := 15) rfl (Wn.run rfl rfl rfl hq3) rfl (fun _ => Yl.pick_false rfl hq4 rfl) ?_
      refine Aq (i := 16) rfl (Wn.plain rfl) rfl (fun _ => Yl.pick_true rfl hq3 rfl) ?_
      refine Aq (i := 17) rfl (Wn.plain rfl) rfl (fun _ => Yl.assign rfl) ?_
      refine AW.done (by kernel_rfl) ?_
      refine W.ret ?_
      refine Fin.mk (Rsl.one rfl rfl) ⟨?_, rfl⟩ (by repeat constructor) (by repeat constructor)
      refine boolv ?_
      have k1 := cmpI_cases (overM l dt) lo
      have k2 := cmpI_cases (overM l dt) hi
      unfold withinM
      simp_all <;> omega
   ·have hq3d := of_decide_eq_false hq3
    refine AW.not (i := 6) rfl (by kernel_rfl) (by kernel_rfl) (by kernel_rfl) (Wn.not rfl rfl rfl hq3) rfl ?_
    refine AW.not (i := 7) rfl (by kernel_rfl) (by kernel_rfl) (by kernel_rfl) (Wn.not rfl rfl rfl hq3) rfl ?_
    refine AW.not (i := 8) rfl (by kernel_rfl) (by kernel_rfl) (by kernel_rfl) (Wn.not rfl rfl rfl hq3) rfl ?_
    refine AW.not (i := 9) rfl (by kernel_rfl) (by kernel_rfl) (by kernel_rfl) (Wn.nob rfl rfl rfl) rfl ?_
    refine AW.not (i := 10) rfl (by kernel_rfl) (by kernel_rfl) (by kernel_rfl) (Wn.nob rfl rfl rfl) rfl ?_
    refine AW.not (i := 11) rfl (by kernel_rfl) (by kernel_rfl) (by kernel_rfl) (Wn.nob rfl rfl rfl) rfl ?_
    refine AW.not (i := 12) rfl (by kernel_rfl) (by kernel_rfl) (by kernel_rfl) (Wn.nob rfl rfl rfl) rfl ?_
    refine AW.not (i := 13) rfl (by kernel_rfl) (by kernel_rfl) (by kernel_rfl) (Wn.nob rfl rfl rfl) rfl ?_
    refine AW.not (i := 14) rfl (by kernel_rfl) (by kernel_rfl) (by kernel_rfl) (Wn.nob rfl rfl rfl) rfl ?_
    refine AW.not (i := 15) rfl (by kernel_rfl) (by kernel_rfl) (by kernel_rfl) (Wn.not rfl rfl rfl hq3) rfl ?_
    refine Aq (i := 16) rfl (Wn.plain rfl) rfl (fun _ => Yl.pick_false rfl hq3 rfl) ?_
    refine Aq (i := 17) rfl (Wn.plain rfl) rfl (fun _ => Yl.assign rfl) ?_
    refine AW.done (by kernel_rfl) ?_
    refine W.ret ?_
    refine Fin.mk (Rsl.one rfl rfl) ⟨?_, rfl⟩ (by repeat constructor) (by repeat constructor)
    refine boolv ?_
    have k1 := cmpI_cases (overM l dt) lo
    have k2 := cmpI_cases (overM l dt) hi
    unfold withinM
    simp_all <;> omega
theorem c_lCompare (a b : Slo) : FnV Tryz.prog 245 #[.agg (encS a).toArray, .agg (encS b).toArray] [] (.tuple #[.int .i64 (if slopeM a && slopeM b then cmpS a b else 0), .bool (slopeM a && slopeM b)]) := by
 refine FnC.go (m := 25) Tryz.func245 Tryz.ntmps245 rfl (Nat.le_of_ble_eq_true rfl) (fun Lf => ?_)
 refine Wr ?_
 refine OW.box (Wn.plain rfl) rfl rfl (by constructor) (fun b1 => ?_)
 refine OW.box (Wn.plain rfl) rfl rfl (by constructor) (fun b2 => ?_)
 refine Oy rfl (Yl.assign rfl) ?_
 refine Oy rfl (Yl.assign rfl) ?_
 refine OW.nil ?_
 refine W.seq ?_
 refine Wr ?_
 refine Oy rfl (Yl.load ⟨Tryz.isAgg146, Tryz.sizeOf146⟩ rfl (by repeat constructor) (by repeat constructor)) ?_
 refine OW.callv (Wn.plain rfl) rfl Tryz.call92 rfl (c_slopeIs _) (by repeat constructor) ?_
 refine Oy rfl (Yl.not rfl) ?_
 refine Oy rfl (Yl.move rfl) ?_
 refine OW.split (t := 9) rfl (fun hq1 => ?_) (fun hq1 => ?_)
 ·have hq1n := not_t hq1
  refine OW.not (Wn.not rfl rfl rfl hq1) rfl ?_
  refine OW.not (Wn.not rfl rfl rfl hq1) rfl ?_
  refine OW.not (Wn.not rfl rfl rfl hq1) rfl ?_
  refine Oy rfl (Yl.pick_true rfl hq1 rfl) ?_
  refine OW.nil ?_
  refine W.cond_true rfl ?_
  refine Wr ?_
  refine Oy rfl (Yl.assign rfl) ?_
  refine Oy rfl (Yl.assign rfl) ?_
  refine OW.nil ?_
  refine W.ret ?_
  refine Fin.mk (Rsl.two rfl rfl rfl) ⟨?_, rfl⟩ (by repeat constructor) (by repeat constructor)
  simp_all [cmpS]
 ·have hq1n := not_f hq1
  have ha := slopeM_t hq1n
  refine OW.yl (Wn.run rfl rfl rfl hq1) rfl (Yl.load ⟨Tryz.isAgg146, Tryz.sizeOf146⟩ rfl (by repeat constructor) (by repeat constructor)) ?_
  refine OW.callv (Wn.run rfl rfl rfl hq1) rfl Tryz.call92 rfl (c_slopeIs _) (by repeat constructor) ?_
  refine OW.yl (Wn.run rfl rfl rfl hq1) rfl (Yl.not rfl) ?_
  refine Oy rfl (Yl.pick_false rfl hq1 rfl) ?_
  refine OW.nil ?_
  refine W.cond rfl (fun hq2 => ?_) (fun hq2 => ?_)
  ·have hq2n := not_t hq2
   refine Wr ?_
   refine Oy rfl (Yl.assign rfl) ?_
   refine Oy rfl (Yl.assign rfl) ?_
   refine OW.nil ?_
   refine W.ret ?_
   refine Fin.mk (Rsl.two rfl rfl rfl) ⟨?_, rfl⟩ (by repeat constructor) (by repeat constructor)
   simp_all [cmpS]
  ·have hq2n := not_f hq2
   have ha := slopeM_t hq1n
   have hb := slopeM_t hq2n
   refine W.skip ?_
   refine W.seq ?_
   refine W.draw mixed ?_
   refine Aq (i := 0) rfl (Wn.plain rfl) rfl (fun _ => Yl.fieldL 0 (fa_146_0) rfl rfl) ?_
   refine Al (i := 1) rfl (Wn.plain rfl) rfl (by repeat constructor) (Yl.load1 Tryz.isAgg2 rfl .head (by repeat constructor)) ?_
   refine Aq (i := 2) rfl (Wn.plain rfl) rfl (fun _ => Yl.fieldL 1 (fa_146_1) rfl rfl) ?_
   refine Al (i := 3) rfl (Wn.plain rfl) rfl (by repeat constructor) (Yl.load1 Tryz.isAgg2 rfl .head (by repeat constructor)) ?_
   refine Aq (i := 5) rfl (Wn.plain rfl) rfl (fun _ => Yl.fieldL 0 (fa_146_0) rfl rfl) ?_
   refine Al (i := 6) rfl (Wn.plain rfl) rfl (by repeat constructor) (Yl.load1 Tryz.isAgg2 rfl .head (by repeat constructor)) ?_
   refine Aq (i := 7) rfl (Wn.plain rfl) rfl (fun _ => Yl.fieldL 1 (fa_146_1) rfl rfl) ?_
   refine Al (i := 8) rfl (Wn.plain rfl) rfl (by repeat constructor) (Yl.load1 Tryz.isAgg2 rfl .head (by repeat constructor)) ?_
   refine AW.step (i := 4) rfl (by kernel_rfl) (Wn.plain rfl) rfl (Ex.call rfl rfl rfl (FnC.tri0 Tryz.call95 (c_Mul _ _ (by omega) (by omega) (by omega) (by omega))) (by repeat constructor)) (.keep (by kernel_rfl) (.keep (by kernel_rfl) (.drop (by kernel_rfl) (.drop (by kernel_rfl) .nil)))) ?_
   rintro _ _ ⟨_, ⟨rfl, rfl⟩, rfl⟩; refine ⟨by repeat constructor, ?_⟩
   refine AW.step (i := 9) rfl (by kernel_rfl) (Wn.plain rfl) rfl (Ex.call rfl rfl rfl (FnC.tri0 Tryz.call95 (c_Mul _ _ (by omega) (by omega) (by omega) (by omega))) (by repeat constructor)) (.drop (by kernel_rfl) (.drop (by kernel_rfl) .nil)) ?_
   rintro _ _ ⟨_, ⟨rfl, rfl⟩, rfl⟩; refine ⟨by repeat constructor, ?_⟩
   refine AW.step (i := 10) rfl (by kernel_rfl) (Wn.plain rfl) rfl (Ex.call rfl rfl rfl (FnC.tri0 Tryz.call49 (c_Compare _ _)) (by repeat constructor)) .nil ?_
   rintro _ _ ⟨_, ⟨rfl, rfl⟩, rfl⟩; refine ⟨by repeat constructor, ?_⟩
   refine Aq (i := 11) rfl (Wn.plain rfl) rfl (fun _ => Yl.assign rfl) ?_
   refine Aq (i := 12) rfl (Wn.plain rfl) rfl (fun _ => Yl.assign rfl) ?_
   refine AW.done (by kernel_rfl) ?_
   refine W.ret ?_
   refine Fin.mk (Rsl.two rfl rfl rfl) ⟨?_, rfl⟩ (by repeat constructor) (by repeat constructor)
   simp_all [cmpS]

def nearM (lo hi : Slo) : Slo := if 0 < lo.N then lowM lo else if hi.N < 0 then lowM hi else ⟨0, 1⟩
theorem nearM_pos {lo hi : Slo} (h : 0 < lo.N) : nearM lo hi = lowM lo := by simp [nearM, h]
theorem nearM_neg {lo hi : Slo} (h : ¬ 0 < lo.N) (h2 : hi.N < 0) : nearM lo hi = lowM hi := by simp [nearM, h, h2]
theorem nearM_0 {lo hi : Slo} (h : ¬ 0 < lo.N) (h2 : ¬ hi.N < 0) : nearM lo hi = ⟨0, 1⟩ := by simp [nearM, h, h2]

theorem c_Nearest (lo hi : Slo) (h1 : slopeM lo = true) (h2 : slopeM hi = true) (h3 : cmpS lo hi ≤ 0) : FnV Tryz.prog 191 #[.agg (encS lo).toArray, .agg (encS hi).toArray] [] (.tuple #[.agg (encS (nearM lo hi)).toArray, .int .i64 0]) := by
 refine FnC.go (m := 35) Tryz.func191 Tryz.ntmps191 rfl (Nat.le_of_ble_eq_true rfl) (fun Lf => ?_)
 have ha := slopeM_t h1
 have hb := slopeM_t h2
 refine Wr ?_
 refine OW.box (Wn.plain rfl) rfl rfl (by constructor) (fun b1 => ?_)
 refine OW.box (Wn.plain rfl) rfl rfl (by constructor) (fun b2 => ?_)
 refine OW.alloc (Wn.plain rfl) rfl Tryz.zeroValue146 (by constructor) (fun b3 => ?_)
 refine Oy rfl (Yl.assign rfl) ?_
 refine OW.nil ?_
 refine Wr ?_
 refine Oy rfl (Yl.load ⟨Tryz.isAgg146, Tryz.sizeOf146⟩ rfl (by repeat constructor) (by repeat constructor)) ?_
 refine Oy rfl (Yl.load ⟨Tryz.isAgg146, Tryz.sizeOf146⟩ rfl (by repeat constructor) (by repeat constructor)) ?_
 refine OW.callv (Wn.plain rfl) rfl Tryz.call245 rfl ((c_lCompare lo hi).cast (v' := .tuple #[.int .i64 (cmpS lo hi), .bool true]) (by simp [h1, h2])) (by repeat constructor) ?_
 refine Oy rfl (Yl.move rfl) ?_
 refine Oy rfl (Yl.extract rfl (by repeat constructor)) ?_
 refine Oy rfl (Yl.extract rfl (by repeat constructor)) ?_
 refine Oy rfl (Yl.assign rfl) ?_
 refine Oy rfl (Yl.assign rfl) ?_
 refine OW.nil ?_
 refine W.seq ?_
 refine W.block ?_
 refine Wr ?_
 refine Oy rfl (Yl.move rfl) ?_
 refine Oy rfl (Yl.not rfl) ?_
 refine Oy rfl (Yl.assign rfl) ?_
 refine OW.nil ?_
 refine W.cond_f1 rfl (bnot_t rfl) ?_
 refine Wr ?_
 refine Oy rfl (Yl.move rfl) ?_
 refine Oy rfl (Yl.gtr rfl rfl) ?_
 refine Oy rfl (Yl.assign rfl) ?_
 refine OW.nil ?_
 refine W.cond rfl (fun hq1 => ?_) (fun hq1 => ?_)
 ·have hq1d := of_decide_eq_true hq1
  exfalso; omega
 ·have hq1d := of_decide_eq_false hq1
  refine Wr ?_
  refine Oy rfl (Yl.fieldL 0 (fa_146_0) rfl rfl) ?_
  refine Oy rfl (Yl.load1 Tryz.isAgg2 rfl (by repeat constructor) (by repeat constructor)) ?_
  refine Oy rfl (Yl.gtr rfl rfl) ?_
  refine Oy rfl (Yl.assign rfl) ?_
  refine OW.nil ?_
  refine W.cond rfl (fun hq2 => ?_) (fun hq2 => ?_)
  ·have hq2d := of_decide_eq_true hq2
   refine Wr ?_
   refine Oy rfl (Yl.load ⟨Tryz.isAgg146, Tryz.sizeOf146⟩ rfl (by repeat constructor) (by repeat constructor)) ?_
   refine OW.callv (Wn.plain rfl) rfl Tryz.call93 rfl (c_lowest _ (by omega) (by omega) (by omega) (by omega)) (by repeat constructor) ?_
   refine OW.store (Wn.plain rfl) Tryz.sizeOf146 rfl rfl (by constructor) (by repeat constructor) rfl (by repeat constructor) (by repeat constructor) ?_
   refine Oy rfl (Yl.assign rfl) ?_
   refine OW.nil ?_
   refine W.ret ?_
   refine Fin.mk (Rsl.of2 rfl (.cell ⟨Tryz.isAgg146, Tryz.sizeOf146⟩ rfl (by repeat constructor) (by repeat constructor)) (.tmp rfl)) ⟨?_, rfl⟩ (by repeat constructor) (by repeat constructor)
   first | (rw [nearM_pos (by omega)]; rfl) | (rw [nearM_neg (by omega) (by omega)]; rfl) | (rw [nearM_0 (by omega) (by omega)]; rfl)
  ·have hq2d := of_decide_eq_false hq2
   refine Wr ?_
   refine Oy rfl (Yl.fieldL 0 (fa_146_0) rfl rfl) ?_
   refine Oy rfl (Yl.load1 Tryz.isAgg2 rfl (by repeat constructor) (by repeat constructor)) ?_
   refine Oy rfl (Yl.lss rfl rfl) ?_
   refine Oy rfl (Yl.assign rfl) ?_
   refine OW.nil ?_
   refine W.cond rfl (fun hq3 => ?_) (fun hq3 => ?_)
   ·have hq3d := of_decide_eq_true hq3
    refine Wr ?_
    refine Oy rfl (Yl.load ⟨Tryz.isAgg146, Tryz.sizeOf146⟩ rfl (by repeat constructor) (by repeat constructor)) ?_
    refine OW.callv (Wn.plain rfl) rfl Tryz.call93 rfl (c_lowest _ (by omega) (by omega) (by omega) (by omega)) (by repeat constructor) ?_
    refine OW.store (Wn.plain rfl) Tryz.sizeOf146 rfl rfl (by constructor) (by repeat constructor) rfl (by repeat constructor) (by repeat constructor) ?_
    refine Oy rfl (Yl.assign rfl) ?_
    refine OW.nil ?_
    refine W.ret ?_
    refine Fin.mk (Rsl.of2 rfl (.cell ⟨Tryz.isAgg146, Tryz.sizeOf146⟩ rfl (by repeat constructor) (by repeat constructor)) (.tmp rfl)) ⟨?_, rfl⟩ (by repeat constructor) (by repeat constructor)
    first | (rw [nearM_pos (by omega)]; rfl) | (rw [nearM_neg (by omega) (by omega)]; rfl) | (rw [nearM_0 (by omega) (by omega)]; rfl)
   ·have hq3d := of_decide_eq_false hq3
    refine W.skip ?_
    refine Wr ?_
    refine Oy rfl (Yl.build (is := [1]) (xs := [.const (.int .i64 1)]) st_146 rfl rfl (by repeat constructor)) ?_
    refine OW.store (Wn.plain rfl) Tryz.sizeOf146 rfl rfl (by constructor) (by repeat constructor) rfl (by repeat constructor) (by repeat constructor) ?_
    refine Oy rfl (Yl.assign rfl) ?_
    refine OW.nil ?_
    refine W.ret ?_
    refine Fin.mk (Rsl.of2 rfl (.cell ⟨Tryz.isAgg146, Tryz.sizeOf146⟩ rfl (by repeat constructor) (by repeat constructor)) (.tmp rfl)) ⟨?_, rfl⟩ (by repeat constructor) (by repeat constructor)
    first | (rw [nearM_pos (by omega)]; rfl) | (rw [nearM_neg (by omega) (by omega)]; rfl) | (rw [nearM_0 (by omega) (by omega)]; rfl)
theorem c_lOf (a : Int) (s : Slo) (h1 : backM a = true) (h2 : slopeM s = true) : FnV Tryz.prog 241 #[.int .i64 a, .agg (encS s).toArray] [] (.tuple #[.agg (encL ⟨a, 0, (lowM s).N, (lowM s).D⟩).toArray, .int .i64 0]) := by
 refine FnC.go (m := 24) Tryz.func241 Tryz.ntmps241 rfl (Nat.le_of_ble_eq_true rfl) (fun Lf => ?_)
 have hb := slopeM_t h2
 refine Wr ?_
 refine OW.box (Wn.plain rfl) rfl rfl (by constructor) (fun b1 => ?_)
 refine OW.alloc (Wn.plain rfl) rfl Tryz.zeroValue37 (by constructor) (fun b2 => ?_)
 refine Oy rfl (Yl.assign rfl) ?_
 refine OW.nil ?_
 refine W.seq ?_
 refine W.block ?_
 refine Wr ?_
 refine Oy rfl (Yl.load ⟨Tryz.isAgg146, Tryz.sizeOf146⟩ rfl (by repeat constructor) (by repeat constructor)) ?_
 refine OW.callv (Wn.plain rfl) rfl Tryz.call92 rfl ((c_slopeIs _).cast (v' := .bool true) (by rw [h2])) (by repeat constructor) ?_
 refine Oy rfl (Yl.not rfl) ?_
 refine Oy rfl (Yl.assign rfl) ?_
 refine OW.nil ?_
 refine W.cond_f1 rfl (bnot_t rfl) ?_
 refine Wr ?_
 refine Oy rfl (Yl.move rfl) ?_
 refine OW.callv (Wn.plain rfl) rfl Tryz.call91 rfl ((c_lback _).cast (v' := .bool true) (by rw [h1])) (by repeat constructor) ?_
 refine Oy rfl (Yl.not rfl) ?_
 refine Oy rfl (Yl.assign rfl) ?_
 refine OW.nil ?_
 refine W.cond_f1 rfl (bnot_t rfl) ?_
 refine W.skip ?_
 refine Wr ?_
 refine Oy rfl (Yl.load ⟨Tryz.isAgg146, Tryz.sizeOf146⟩ rfl (by repeat constructor) (by repeat constructor)) ?_
 refine OW.callv (Wn.plain rfl) rfl Tryz.call93 rfl (c_lowest _ (by omega) (by omega) (by omega) (by omega)) (by repeat constructor) ?_
 refine OW.store (Wn.plain rfl) Tryz.sizeOf146 rfl rfl (by constructor) (by repeat constructor) rfl (by repeat constructor) (by repeat constructor) ?_
 refine OW.nil ?_
 refine Wr ?_
 refine Oy rfl (Yl.move rfl) ?_
 refine Oy rfl (Yl.fieldL 0 (fa_146_0) rfl rfl) ?_
 refine Oy rfl (Yl.load1 Tryz.isAgg2 rfl (by repeat constructor) (by repeat constructor)) ?_
 refine Oy rfl (Yl.fieldL 1 (fa_146_1) rfl rfl) ?_
 refine Oy rfl (Yl.load1 Tryz.isAgg2 rfl (by repeat constructor) (by repeat constructor)) ?_
 refine Oy rfl (Yl.build (is := [0, 2, 3]) (xs := [.tmp 18, .tmp 20, .tmp 22]) st_37 rfl rfl (by repeat constructor)) ?_
 refine OW.store (Wn.plain rfl) Tryz.sizeOf37 rfl rfl (by constructor) (by repeat constructor) rfl (by repeat constructor) (by repeat constructor) ?_
 refine Oy rfl (Yl.assign rfl) ?_
 refine OW.nil ?_
 refine W.ret ?_
 refine Fin.mk (Rsl.of2 rfl (.cell ⟨Tryz.isAgg37, Tryz.sizeOf37⟩ rfl (by repeat constructor) (by repeat constructor)) (.tmp rfl)) ⟨?_, rfl⟩ (by repeat constructor) (by repeat constructor)
 rfl
def bx (e0 e1 v : Int) : Int := if e0 = 0 ∧ e1 = 0 then v else 0
def be (e0 e1 : Int) : Int := if e0 = 0 then e1 else e0
def bothV (v0 e0 v1 e1 : Int) : Value := .tuple [.agg [.int .i64 (bx e0 e1 v0), .int .i64 (bx e0 e1 v1)].toArray, .int .i64 (be e0 e1)].toArray
theorem bothV_0 {v0 e0 v1 e1 : Int} (h : e0 ≠ 0) : bothV v0 e0 v1 e1 = .tuple #[.agg #[.int .i64 0, .int .i64 0], .int .i64 e0] := by simp [bothV, bx, be, h]
theorem bothV_1 {v0 e0 v1 e1 : Int} (h : e0 = 0) (h1 : e1 ≠ 0) : bothV v0 e0 v1 e1 = .tuple #[.agg #[.int .i64 0, .int .i64 0], .int .i64 e1] := by simp [bothV, bx, be, h, h1]
theorem bothV_2 {v0 e0 v1 e1 : Int} (h : e0 = 0) (h1 : e1 = 0) : bothV v0 e0 v1 e1 = .tuple #[.agg #[.int .i64 v0, .int .i64 v1], .int .i64 0] := by simp [bothV, bx, be, h, h1]
def Gives (of : Value) (arg : Value) (ρ : Res) (v : Value) : Prop := Tri Tryz.prog of #[arg] [ρ] (fun v' L' => v' = v ∧ L' = [ρ])

theorem c_both (a0 a1 v0 e0 v1 e1 : Int) (of : Value) (ρ : Res) (g0 : Gives of (.int .i64 a0) ρ (tupE v0 e0)) (g1 : Gives of (.int .i64 a1) ρ (tupE v1 e1)) : FnC Tryz.prog 265 #[.agg #[.int .i64 a0, .int .i64 a1], of] [ρ] (fun v L' => v = bothV v0 e0 v1 e1 ∧ L' = [ρ]) := by
 refine FnC.go (m := 31) Tryz.func265 Tryz.ntmps265 rfl (Nat.le_of_ble_eq_true rfl) (fun Lf => ?_)
 refine Wr ?_
 refine OW.box (Wn.plain rfl) rfl rfl (by constructor) (fun b1 => ?_)
 refine OW.alloc (Wn.plain rfl) rfl Tryz.zeroValue354 (by constructor) (fun b2 => ?_)
 refine Oy rfl (Yl.assign rfl) ?_
 refine OW.nil ?_
 refine W.scope ?_
 refine Wr ?_
 refine OW.alloc (Wn.plain rfl) rfl Tryz.zeroValue354 (by constructor) (fun b3 => ?_)
 refine OW.nil ?_
 refine W.seq ?_
 refine W.label ?_
 refine W.seq ?_
 refine Wr ?_
 refine Oy rfl (Yl.load ⟨Tryz.isAgg354, Tryz.sizeOf354⟩ rfl (by repeat constructor) (by repeat constructor)) ?_
 refine Oy rfl (Yl.move rfl) ?_
 refine OW.nil ?_
 refine W.block ?_
 refine W.loopL ?_
 refine WL.round ?_
 refine Wr ?_
 refine Oy rfl (Yl.lss rfl rfl) ?_
 refine OW.nil ?_
 refine W.seq ?_
 refine W.cond_t1 rfl (by decide) ?_
 refine W.skip ?_
 refine W.seq ?_
 refine W.block ?_
 refine Wr ?_
 refine Oy rfl (Yl.move rfl) ?_
 refine Oy rfl (Yl.index1 0 ⟨Tryz.underlying354, Tryz.sizeOf2⟩ Tryz.isAgg2 rfl rfl rfl (by decide) (by repeat constructor)) ?_
 refine Oy rfl (Yl.assign rfl) ?_
 refine Oy rfl (Yl.assign rfl) ?_
 refine OW.nil ?_
 refine Wr ?_
 refine Oy rfl (Yl.move rfl) ?_
 refine Oy rfl (Yl.move rfl) ?_
 refine OW.call (Wn.plain rfl) rfl rfl rfl (g0) (by repeat constructor) ?_
 rintro _ _ ⟨rfl, rfl⟩
 refine Oy rfl (Yl.move rfl) ?_
 refine Oy rfl (Yl.extract rfl (by repeat constructor)) ?_
 refine Oy rfl (Yl.extract rfl (by repeat constructor)) ?_
 refine Oy rfl (Yl.assign rfl) ?_
 refine Oy rfl (Yl.assign rfl) ?_
 refine OW.nil ?_
 refine W.seq ?_
 refine Wr ?_
 refine Oy rfl (Yl.move rfl) ?_
 refine Oy rfl (Yl.neq rfl rfl) ?_
 refine OW.nil ?_
 refine W.cond rfl (fun hq1 => ?_) (fun hq1 => ?_)
 ·have hq1d := of_decide_eq_true hq1
  refine Wr ?_
  refine Oy rfl (Yl.buildA (is := []) (xs := []) ab_354 rfl rfl (by repeat constructor)) ?_
  refine Oy rfl (Yl.move rfl) ?_
  refine OW.store (Wn.plain rfl) Tryz.sizeOf354 rfl rfl (by constructor) (by repeat constructor) rfl (by repeat constructor) (by repeat constructor) ?_
  refine Oy rfl (Yl.assign rfl) ?_
  refine OW.nil ?_
  refine W.ret ?_
  refine Fin.mk (Rsl.of2 rfl (.cell ⟨Tryz.isAgg354, Tryz.sizeOf354⟩ rfl (by repeat constructor) (by repeat constructor)) (.tmp rfl)) ⟨?_, rfl⟩ (by repeat constructor) (by repeat constructor)
  first | rw [bothV_0 (by omega)] | rw [bothV_1 (by omega) (by omega)] | rw [bothV_2 (by omega) (by omega)]
 ·have hq1d := of_decide_eq_false hq1
  refine W.skip ?_
  refine Wr ?_
  refine Oy rfl (Yl.move rfl) ?_
  refine Oy rfl (Yl.move rfl) ?_
  refine Oy rfl (Yl.indexA (o' := 0) 0 ⟨Tryz.underlying354, Tryz.sizeOf2⟩ rfl rfl rfl (by decide) rfl) ?_
  refine OW.store (Wn.plain rfl) Tryz.sizeOf2 rfl rfl (by constructor) (by repeat constructor) rfl (by repeat constructor) (by repeat constructor) ?_
  refine OW.nil ?_
  refine W.exit ?_
  refine W.region ?_
  refine Oy rfl (Yl.addW (c := 1) rfl rfl rfl) ?_
  refine Oy rfl (Yl.move rfl) ?_
  refine OW.nil ?_
  refine WL.round ?_
  refine Wr ?_
  refine Oy rfl (Yl.lss rfl rfl) ?_
  refine OW.nil ?_
  refine W.seq ?_
  refine W.cond_t1 rfl (by decide) ?_
  refine W.skip ?_
  refine W.seq ?_
  refine W.block ?_
  refine Wr ?_
  refine Oy rfl (Yl.move rfl) ?_
  refine Oy rfl (Yl.index1 1 ⟨Tryz.underlying354, Tryz.sizeOf2⟩ Tryz.isAgg2 rfl rfl rfl (by decide) (by repeat constructor)) ?_
  refine Oy rfl (Yl.assign rfl) ?_
  refine Oy rfl (Yl.assign rfl) ?_
  refine OW.nil ?_
  refine Wr ?_
  refine Oy rfl (Yl.move rfl) ?_
  refine Oy rfl (Yl.move rfl) ?_
  refine OW.call (Wn.plain rfl) rfl rfl rfl (g1) (by repeat constructor) ?_
  rintro _ _ ⟨rfl, rfl⟩
  refine Oy rfl (Yl.move rfl) ?_
  refine Oy rfl (Yl.extract rfl (by repeat constructor)) ?_
  refine Oy rfl (Yl.extract rfl (by repeat constructor)) ?_
  refine Oy rfl (Yl.assign rfl) ?_
  refine Oy rfl (Yl.assign rfl) ?_
  refine OW.nil ?_
  refine W.seq ?_
  refine Wr ?_
  refine Oy rfl (Yl.move rfl) ?_
  refine Oy rfl (Yl.neq rfl rfl) ?_
  refine OW.nil ?_
  refine W.cond rfl (fun hq2 => ?_) (fun hq2 => ?_)
  ·have hq2d := of_decide_eq_true hq2
   refine Wr ?_
   refine Oy rfl (Yl.buildA (is := []) (xs := []) ab_354 rfl rfl (by repeat constructor)) ?_
   refine Oy rfl (Yl.move rfl) ?_
   refine OW.store (Wn.plain rfl) Tryz.sizeOf354 rfl rfl (by constructor) (by repeat constructor) rfl (by repeat constructor) (by repeat constructor) ?_
   refine Oy rfl (Yl.assign rfl) ?_
   refine OW.nil ?_
   refine W.ret ?_
   refine Fin.mk (Rsl.of2 rfl (.cell ⟨Tryz.isAgg354, Tryz.sizeOf354⟩ rfl (by repeat constructor) (by repeat constructor)) (.tmp rfl)) ⟨?_, rfl⟩ (by repeat constructor) (by repeat constructor)
   first | rw [bothV_0 (by omega)] | rw [bothV_1 (by omega) (by omega)] | rw [bothV_2 (by omega) (by omega)]
  ·have hq2d := of_decide_eq_false hq2
   refine W.skip ?_
   refine Wr ?_
   refine Oy rfl (Yl.move rfl) ?_
   refine Oy rfl (Yl.move rfl) ?_
   refine Oy rfl (Yl.indexA (o' := 1) 1 ⟨Tryz.underlying354, Tryz.sizeOf2⟩ rfl rfl rfl (by decide) rfl) ?_
   refine OW.store (Wn.plain rfl) Tryz.sizeOf2 rfl rfl (by constructor) (by repeat constructor) rfl (by repeat constructor) (by repeat constructor) ?_
   refine OW.nil ?_
   refine W.exit ?_
   refine W.region ?_
   refine Oy rfl (Yl.addW (c := 2) rfl rfl rfl) ?_
   refine Oy rfl (Yl.move rfl) ?_
   refine OW.nil ?_
   refine WL.round ?_
   refine Wr ?_
   refine Oy rfl (Yl.lss rfl rfl) ?_
   refine OW.nil ?_
   refine W.seq ?_
   refine W.cond_f1 rfl (by decide) ?_
   refine W.exit ?_
   refine Wr ?_
   refine Oy rfl (Yl.load ⟨Tryz.isAgg354, Tryz.sizeOf354⟩ rfl (by repeat constructor) (by repeat constructor)) ?_
   refine OW.store (Wn.plain rfl) Tryz.sizeOf354 rfl rfl (by constructor) (by repeat constructor) rfl (by repeat constructor) (by repeat constructor) ?_
   refine Oy rfl (Yl.assign rfl) ?_
   refine OW.nil ?_
   refine W.ret ?_
   refine Fin.mk (Rsl.of2 rfl (.cell ⟨Tryz.isAgg354, Tryz.sizeOf354⟩ rfl (by repeat constructor) (by repeat constructor)) (.tmp rfl)) ⟨?_, rfl⟩ (by repeat constructor) (by repeat constructor)
   first | rw [bothV_0 (by omega)] | rw [bothV_1 (by omega) (by omega)] | rw [bothV_2 (by omega) (by omega)]
theorem c_Ends1 (l : Lin) (dt : Int) (b : Nat) (hl : lineM l = true) (hd : timeM dt = true) : FnC Tryz.prog 266 #[.int .i64 dt, .pointer (some ⟨b, 0, none⟩)] [.cell b [.func (.func 231) #[.agg (encL l).toArray] #[]] 317] (fun v L' => v = tupE (valV l dt) (valE l dt) ∧ L' = [.cell b [.func (.func 231) #[.agg (encL l).toArray] #[]] 317]) := by
 refine FnC.go (m := 10) Tryz.func266 Tryz.ntmps266 rfl (Nat.le_of_ble_eq_true rfl) (fun Lf => ?_)
 refine Wr ?_
 refine Oy rfl (Yl.assign rfl) ?_
 refine Oy rfl (Yl.assign rfl) ?_
 refine OW.nil ?_
 refine Wr ?_
 refine Oy rfl (Yl.load1 Tryz.isAgg317 rfl (by repeat constructor) (by repeat constructor)) ?_
 refine Oy rfl (Yl.move rfl) ?_
 refine OW.call (Wn.plain rfl) rfl rfl rfl (FnC.triC Tryz.call231 (c_value _ _ hl hd)) (by repeat constructor) ?_
 rintro _ _ ⟨rfl, rfl⟩
 refine Oy rfl (Yl.extract rfl (by repeat constructor)) ?_
 refine Oy rfl (Yl.extract rfl (by repeat constructor)) ?_
 refine Oy rfl (Yl.assign rfl) ?_
 refine Oy rfl (Yl.assign rfl) ?_
 refine OW.nil ?_
 refine W.ret ?_
 refine Fin.mk (Rsl.two rfl rfl rfl) ⟨?_, rfl⟩ (by repeat constructor) (by repeat constructor)
 rfl

def endsE (l : Lin) (a b : Int) : Int := if lineM l then if timeM a && timeM b && decide (a ≤ b) then be (valE l a) (valE l b) else 2 else 150
def endsLo (l : Lin) (a b : Int) : Int := if endsE l a b = 0 then min (valV l a) (valV l b) else 0
def endsHi (l : Lin) (a b : Int) : Int := if endsE l a b = 0 then max (valV l a) (valV l b) else 0
theorem be_0 {e0 e1 : Int} : be e0 e1 = 0 ↔ e0 = 0 ∧ e1 = 0 := by unfold be; split <;> omega
theorem bxmin (e0 e1 v0 v1 : Int) : min (bx e0 e1 v0) (bx e0 e1 v1) = if be e0 e1 = 0 then min v0 v1 else 0 := by
 unfold bx; by_cases h : e0 = 0 ∧ e1 = 0
 ·rw [if_pos h, if_pos h, if_pos (be_0.2 h)]
 ·rw [if_neg h, if_neg h, if_neg (mt be_0.1 h)]; rfl
theorem bxmax (e0 e1 v0 v1 : Int) : max (bx e0 e1 v0) (bx e0 e1 v1) = if be e0 e1 = 0 then max v0 v1 else 0 := by
 unfold bx; by_cases h : e0 = 0 ∧ e1 = 0
 ·rw [if_pos h, if_pos h, if_pos (be_0.2 h)]
 ·rw [if_neg h, if_neg h, if_neg (mt be_0.1 h)]; rfl
theorem endsE_1 {l : Lin} {a b : Int} (h : lineM l = false) : endsE l a b = 150 := by simp [endsE, h]
theorem endsE_2 {l : Lin} {a b : Int} (h : lineM l = true) (h2 : (timeM a && timeM b && decide (a ≤ b)) = false) : endsE l a b = 2 := by simp only [endsE, h, h2]; rfl
theorem endsE_3 {l : Lin} {a b : Int} (h : lineM l = true) (h2 : (timeM a && timeM b && decide (a ≤ b)) = true) : endsE l a b = be (valE l a) (valE l b) := by simp only [endsE, h, h2]; rfl
theorem tupS {a b c a' b' c' : Int} (h1 : a = a') (h2 : b = b') (h3 : c = c') : Value.tuple [.agg [.int .i64 a, .int .i64 b].toArray, .int .i64 c].toArray = .tuple #[.agg #[.int .i64 a', .int .i64 b'], .int .i64 c'] := by rw [h1, h2, h3]

theorem c_Ends (l : Lin) (a b : Int) : FnV Tryz.prog 220 #[.agg (encL l).toArray, .int .i64 a, .int .i64 b] [] (.tuple #[.agg #[.int .i64 (endsLo l a b), .int .i64 (endsHi l a b)], .int .i64 (endsE l a b)]) := by
 refine FnC.go (m := 56) Tryz.func220 Tryz.ntmps220 rfl (Nat.le_of_ble_eq_true rfl) (fun Lf => ?_)
 refine Wr ?_
 refine OW.box (Wn.plain rfl) rfl rfl (by constructor) (fun b1 => ?_)
 refine OW.alloc (Wn.plain rfl) rfl Tryz.zeroValue194 (by constructor) (fun b2 => ?_)
 refine Oy rfl (Yl.assign rfl) ?_
 refine OW.nil ?_
 refine Wr ?_
 refine Oy rfl (Yl.load ⟨Tryz.isAgg37, Tryz.sizeOf37⟩ rfl (by repeat constructor) (by repeat constructor)) ?_
 refine Oy rfl (Yl.build (is := [0]) (xs := [.tmp 12]) st_82 rfl rfl (by repeat constructor)) ?_
 refine OW.alloc (Wn.plain rfl) rfl Tryz.zeroValue82 (by constructor) (fun b3 => ?_)
 refine OW.store (Wn.plain rfl) Tryz.sizeOf82 rfl rfl (by constructor) (by repeat constructor) rfl (by repeat constructor) (by repeat constructor) ?_
 refine OW.nil ?_
 refine W.seq ?_
 refine W.block ?_
 refine Wr ?_
 refine Oy rfl (Yl.load ⟨Tryz.isAgg82, Tryz.sizeOf82⟩ rfl (by repeat constructor) (by repeat constructor)) ?_
 refine OW.callv (Wn.plain rfl) rfl Tryz.call46 rfl (c_is _) (by repeat constructor) ?_
 refine Oy rfl (Yl.not rfl) ?_
 refine Oy rfl (Yl.assign rfl) ?_
 refine OW.nil ?_
 refine W.cond rfl (fun hq1 => ?_) (fun hq1 => ?_)
 ·have hq1n := not_t hq1
  refine Wr ?_
  refine Oy rfl (Yl.build (is := []) (xs := []) st_194 rfl rfl (by repeat constructor)) ?_
  refine OW.store (Wn.plain rfl) Tryz.sizeOf194 rfl rfl (by constructor) (by repeat constructor) rfl (by repeat constructor) (by repeat constructor) ?_
  refine Oy rfl (Yl.assign rfl) ?_
  refine OW.nil ?_
  refine W.ret ?_
  refine Fin.mk (Rsl.of2 rfl (.cell ⟨Tryz.isAgg194, Tryz.sizeOf194⟩ rfl (by repeat constructor) (by repeat constructor)) (.tmp rfl)) ⟨?_, rfl⟩ (by repeat constructor) (by repeat constructor)
  have e := endsE_1 (a := a) (b := b) hq1n
  exact tupS (by simp [endsLo, e]) (by simp [endsHi, e]) e.symm
 ·have hq1n := not_f hq1
  refine Wr ?_
  refine Oy rfl (Yl.move rfl) ?_
  refine OW.callv (Wn.plain rfl) rfl Tryz.call47 rfl (c_timeIs _) (by repeat constructor) ?_
  refine Oy rfl (Yl.not rfl) ?_
  refine Oy rfl (Yl.move rfl) ?_
  refine OW.split (t := 23) rfl (fun hq2 => ?_) (fun hq2 => ?_)
  ·have hq2n := not_t hq2
   refine OW.not (Wn.not rfl rfl rfl hq2) rfl ?_
   refine OW.not (Wn.not rfl rfl rfl hq2) rfl ?_
   refine OW.not (Wn.not rfl rfl rfl hq2) rfl ?_
   refine Oy rfl (Yl.pick_true rfl hq2 rfl) ?_
   refine Oy rfl (Yl.move rfl) ?_
   refine OW.not (Wn.not rfl rfl rfl rfl) rfl ?_
   refine OW.not (Wn.not rfl rfl rfl rfl) rfl ?_
   refine OW.not (Wn.not rfl rfl rfl rfl) rfl ?_
   refine Oy rfl (Yl.pick_true rfl rfl rfl) ?_
   refine Oy rfl (Yl.assign rfl) ?_
   refine OW.nil ?_
   refine W.cond_true rfl ?_
   refine Wr ?_
   refine Oy rfl (Yl.build (is := []) (xs := []) st_194 rfl rfl (by repeat constructor)) ?_
   refine OW.store (Wn.plain rfl) Tryz.sizeOf194 rfl rfl (by constructor) (by repeat constructor) rfl (by repeat constructor) (by repeat constructor) ?_
   refine Oy rfl (Yl.assign rfl) ?_
   refine OW.nil ?_
   refine W.ret ?_
   refine Fin.mk (Rsl.of2 rfl (.cell ⟨Tryz.isAgg194, Tryz.sizeOf194⟩ rfl (by repeat constructor) (by repeat constructor)) (.tmp rfl)) ⟨?_, rfl⟩ (by repeat constructor) (by repeat constructor)
   have e := endsE_2 (l := l) (a := a) (b := b) hq1n (by simp_all <;> omega)
   exact tupS (by simp [endsLo, e]) (by simp [endsHi, e]) e.symm
  ·have hq2n := not_f hq2
   refine OW.yl (Wn.run rfl rfl rfl hq2) rfl (Yl.move rfl) ?_
   refine OW.callv (Wn.run rfl rfl rfl hq2) rfl Tryz.call47 rfl (c_timeIs _) (by repeat constructor) ?_
   refine OW.yl (Wn.run rfl rfl rfl hq2) rfl (Yl.not rfl) ?_
   refine Oy rfl (Yl.pick_false rfl hq2 rfl) ?_
   refine Oy rfl (Yl.move rfl) ?_
   refine OW.split (t := 28) rfl (fun hq3 => ?_) (fun hq3 => ?_)
   ·have hq3n := not_t hq3
    refine OW.not (Wn.not rfl rfl rfl hq3) rfl ?_
    refine OW.not (Wn.not rfl rfl rfl hq3) rfl ?_
    refine OW.not (Wn.not rfl rfl rfl hq3) rfl ?_
    refine Oy rfl (Yl.pick_true rfl hq3 rfl) ?_
    refine Oy rfl (Yl.assign rfl) ?_
    refine OW.nil ?_
    refine W.cond_true rfl ?_
    refine Wr ?_
    refine Oy rfl (Yl.build (is := []) (xs := []) st_194 rfl rfl (by repeat constructor)) ?_
    refine OW.store (Wn.plain rfl) Tryz.sizeOf194 rfl rfl (by constructor) (by repeat constructor) rfl (by repeat constructor) (by repeat constructor) ?_
    refine Oy rfl (Yl.assign rfl) ?_
    refine OW.nil ?_
    refine W.ret ?_
    refine Fin.mk (Rsl.of2 rfl (.cell ⟨Tryz.isAgg194, Tryz.sizeOf194⟩ rfl (by repeat constructor) (by repeat constructor)) (.tmp rfl)) ⟨?_, rfl⟩ (by repeat constructor) (by repeat constructor)
    have e := endsE_2 (l := l) (a := a) (b := b) hq1n (by simp_all <;> omega)
    exact tupS (by simp [endsLo, e]) (by simp [endsHi, e]) e.symm
   ·have hq3n := not_f hq3
    refine OW.yl (Wn.run rfl rfl rfl hq3) rfl (Yl.move rfl) ?_
    refine OW.yl (Wn.run rfl rfl rfl hq3) rfl (Yl.move rfl) ?_
    refine OW.yl (Wn.run rfl rfl rfl hq3) rfl (Yl.gtr rfl rfl) ?_
    refine Oy rfl (Yl.pick_false rfl hq3 rfl) ?_
    refine Oy rfl (Yl.assign rfl) ?_
    refine OW.nil ?_
    refine W.cond rfl (fun hq4 => ?_) (fun hq4 => ?_)
    ·have hq4d := of_decide_eq_true hq4
     refine Wr ?_
     refine Oy rfl (Yl.build (is := []) (xs := []) st_194 rfl rfl (by repeat constructor)) ?_
     refine OW.store (Wn.plain rfl) Tryz.sizeOf194 rfl rfl (by constructor) (by repeat constructor) rfl (by repeat constructor) (by repeat constructor) ?_
     refine Oy rfl (Yl.assign rfl) ?_
     refine OW.nil ?_
     refine W.ret ?_
     refine Fin.mk (Rsl.of2 rfl (.cell ⟨Tryz.isAgg194, Tryz.sizeOf194⟩ rfl (by repeat constructor) (by repeat constructor)) (.tmp rfl)) ⟨?_, rfl⟩ (by repeat constructor) (by repeat constructor)
     have e := endsE_2 (l := l) (a := a) (b := b) hq1n (by simp_all <;> omega)
     exact tupS (by simp [endsLo, e]) (by simp [endsHi, e]) e.symm
    ·have hq4d := of_decide_eq_false hq4
     have hl := hq1n
     have ha := hq2n
     have hb := hq3n
     refine W.skip ?_
     refine Wr ?_
     refine Oy rfl (Yl.load ⟨Tryz.isAgg82, Tryz.sizeOf82⟩ rfl (by repeat constructor) (by repeat constructor)) ?_
     refine Oy rfl (Yl.makeFunc rfl rfl) ?_
     refine OW.alloc (Wn.plain rfl) rfl Tryz.zeroValue317 (by constructor) (fun b4 => ?_)
     refine OW.store (Wn.plain rfl) Tryz.sizeOf317 rfl rfl (by constructor) (by repeat constructor) rfl (by repeat constructor) (by repeat constructor) ?_
     refine OW.nil ?_
     refine Wr ?_
     refine Oy rfl (Yl.move rfl) ?_
     refine Oy rfl (Yl.move rfl) ?_
     refine Oy rfl (Yl.buildA (is := [0, 1]) (xs := [.tmp 37, .tmp 38]) ab_354 rfl rfl (by repeat constructor)) ?_
     refine Oy rfl (Yl.makeFunc rfl rfl) ?_
     refine OW.call (Wn.plain rfl) rfl rfl rfl (FnC.tri0 Tryz.call265 (c_both a b (valV l a) (valE l a) (valV l b) (valE l b) _ (.cell _ [.func (.func 231) #[.agg (encL l).toArray] #[]] 317) (FnC.triC (first := []) (cap := [_]) (args := [_]) Tryz.call266 (c_Ends1 l a _ hl ha)) (FnC.triC (first := []) (cap := [_]) (args := [_]) Tryz.call266 (c_Ends1 l b _ hl hb)))) (by repeat constructor) ?_
     rintro _ _ ⟨rfl, rfl⟩
     refine Oy rfl (Yl.move rfl) ?_
     refine Oy rfl (Yl.extract rfl (by repeat constructor)) ?_
     refine Oy rfl (Yl.extract rfl (by repeat constructor)) ?_
     refine OW.alloc (Wn.plain rfl) rfl Tryz.zeroValue354 (by constructor) (fun b5 => ?_)
     refine OW.store (Wn.plain rfl) Tryz.sizeOf354 rfl rfl (by constructor) (by repeat constructor) rfl (by repeat constructor) (by repeat constructor) ?_
     refine Oy rfl (Yl.assign rfl) ?_
     refine OW.nil ?_
     refine Wr ?_
     refine Oy rfl (Yl.indexA (o' := 0) 0 ⟨Tryz.underlying354, Tryz.sizeOf2⟩ rfl rfl rfl (by decide) rfl) ?_
     refine Oy rfl (Yl.load1 Tryz.isAgg2 rfl (by repeat constructor) (by repeat constructor)) ?_
     refine Oy rfl (Yl.indexA (o' := 1) 1 ⟨Tryz.underlying354, Tryz.sizeOf2⟩ rfl rfl rfl (by decide) rfl) ?_
     refine Oy rfl (Yl.load1 Tryz.isAgg2 rfl (by repeat constructor) (by repeat constructor)) ?_
     refine Oy rfl (Yl.min2 rfl rfl) ?_
     refine Oy rfl (Yl.indexA (o' := 0) 0 ⟨Tryz.underlying354, Tryz.sizeOf2⟩ rfl rfl rfl (by decide) rfl) ?_
     refine Oy rfl (Yl.load1 Tryz.isAgg2 rfl (by repeat constructor) (by repeat constructor)) ?_
     refine Oy rfl (Yl.indexA (o' := 1) 1 ⟨Tryz.underlying354, Tryz.sizeOf2⟩ rfl rfl rfl (by decide) rfl) ?_
     refine Oy rfl (Yl.load1 Tryz.isAgg2 rfl (by repeat constructor) (by repeat constructor)) ?_
     refine Oy rfl (Yl.max2 rfl rfl) ?_
     refine Oy rfl (Yl.build (is := [0, 1]) (xs := [.tmp 48, .tmp 53]) st_194 rfl rfl (by repeat constructor)) ?_
     refine Oy rfl (Yl.move rfl) ?_
     refine OW.store (Wn.plain rfl) Tryz.sizeOf194 rfl rfl (by constructor) (by repeat constructor) rfl (by repeat constructor) (by repeat constructor) ?_
     refine Oy rfl (Yl.assign rfl) ?_
     refine OW.nil ?_
     refine W.ret ?_
     refine Fin.mk (Rsl.of2 rfl (.cell ⟨Tryz.isAgg194, Tryz.sizeOf194⟩ rfl (by repeat constructor) (by repeat constructor)) (.tmp rfl)) ⟨?_, rfl⟩ (by repeat constructor) (by repeat constructor)
     have e := endsE_3 (a := a) (b := b) hl (by simp_all <;> omega)
     exact tupS (by simp only [endsLo, e, bxmin]) (by simp only [endsHi, e, bxmax]) e.symm

def raisedM (c : Int) (s : Slo) : Lin := if backM (c / s.D) then ⟨c / s.D, c % s.D, s.N, s.D⟩ else ⟨0, 0, 0, 0⟩
theorem raisedM_y {c : Int} {s : Slo} (h : backM (c / s.D) = true) : raisedM c s = ⟨c / s.D, c % s.D, s.N, s.D⟩ := by simp [raisedM, h]
theorem raisedM_n {c : Int} {s : Slo} (h : backM (c / s.D) = false) : raisedM c s = ⟨0, 0, 0, 0⟩ := by simp [raisedM, h]
theorem int_ok {n : Int} (h : ¬ (if -9223372036854775808 ≤ n ∧ n ≤ 9223372036854775807 then (0 : Int) else 5) ≠ 0) : -9223372036854775808 ≤ n ∧ n ≤ 9223372036854775807 := by
 by_cases h1 : -9223372036854775808 ≤ n ∧ n ≤ 9223372036854775807
 ·exact h1
 ·rw [if_neg h1] at h; exact absurd (by decide) h
theorem int_no {n : Int} (h : (if -9223372036854775808 ≤ n ∧ n ≤ 9223372036854775807 then (0 : Int) else 5) ≠ 0) : backM n = false := by
 by_cases h1 : -9223372036854775808 ≤ n ∧ n ≤ 9223372036854775807
 ·rw [if_pos h1] at h; exact absurd rfl h
 ·unfold backM; exact decide_eq_false (by omega)

theorem c_RaisedT (c : Int) (s : Slo) (hc : InW c) (h1 : slopeM s = true) (h2 : lowM s = s) : FnV Tryz.prog 192 #[.agg (encW c).toArray, .agg (encS s).toArray] [] (.tuple #[.agg (encL (raisedM c s)).toArray, .int .i64 (if backM (c / s.D) then 0 else 5)]) := by
 refine FnC.go (m := 50) Tryz.func192 Tryz.ntmps192 rfl (Nat.le_of_ble_eq_true rfl) (fun Lf => ?_)
 have hb := slopeM_t h1
 have hi := in_div (m := s.D) hc (by omega)
 refine Wr ?_
 refine OW.box (Wn.plain rfl) rfl rfl (by constructor) (fun b1 => ?_)
 refine OW.box (Wn.plain rfl) rfl rfl (by constructor) (fun b2 => ?_)
 refine OW.alloc (Wn.plain rfl) rfl Tryz.zeroValue37 (by constructor) (fun b3 => ?_)
 refine Oy rfl (Yl.assign rfl) ?_
 refine OW.nil ?_
 refine W.seq ?_
 refine W.block ?_
 refine Wr ?_
 refine Oy rfl (Yl.load ⟨Tryz.isAgg146, Tryz.sizeOf146⟩ rfl (by repeat constructor) (by repeat constructor)) ?_
 refine OW.callv (Wn.plain rfl) rfl Tryz.call92 rfl ((c_slopeIs s).cast (v' := .bool true) (by rw [h1])) (by repeat constructor) ?_
 refine Oy rfl (Yl.not rfl) ?_
 refine Oy rfl (Yl.assign rfl) ?_
 refine OW.nil ?_
 refine W.cond_f1 rfl (bnot_t rfl) ?_
 refine W.seq ?_
 refine W.draw mixed ?_
 refine Al (i := 0) rfl (Wn.plain rfl) rfl (by repeat constructor) (Yl.load ⟨Tryz.isAgg146, Tryz.sizeOf146⟩ rfl .head (by repeat constructor)) ?_
 refine Al (i := 2) rfl (Wn.plain rfl) rfl (by repeat constructor) (Yl.load ⟨Tryz.isAgg146, Tryz.sizeOf146⟩ rfl .head (by repeat constructor)) ?_
 refine AW.step (i := 1) rfl (by kernel_rfl) (Wn.plain rfl) rfl (Ex.call rfl rfl rfl (FnC.tri0 Tryz.call93 ((c_lowest s (by omega) (by omega) (by omega) (by omega)).cast (v' := .agg (encS s).toArray) (by rw [h2]))) (by repeat constructor)) (.keep (by kernel_rfl) (.drop (by kernel_rfl) .nil)) ?_
 rintro _ _ ⟨_, ⟨rfl, rfl⟩, rfl⟩; refine ⟨by repeat constructor, ?_⟩
 refine Aq (i := 3) rfl (Wn.plain rfl) rfl (fun _ => Yl.neqst (eqv_146 s s) rfl rfl) ?_
 refine Aq (i := 4) rfl (Wn.plain rfl) rfl (fun _ => Yl.assign rfl) ?_
 refine AW.done (by kernel_rfl) ?_
 refine W.cond rfl (fun hq1 => ?_) (fun hq1 => ?_)
 ·have hq1n := not_t hq1
  have hq1d := of_decide_eq_false hq1n
  exfalso; simp at hq1
 ·have hq1n := not_f hq1
  have hq1d := of_decide_eq_true hq1n
  refine W.skip ?_
  refine Wr ?_
  refine Oy rfl (Yl.load ⟨Tryz.isAgg85, Tryz.sizeOf85⟩ rfl (by repeat constructor) (by repeat constructor)) ?_
  refine Oy rfl (Yl.fieldL 1 (fa_146_1) rfl rfl) ?_
  refine Oy rfl (Yl.load1 Tryz.isAgg2 rfl (by repeat constructor) (by repeat constructor)) ?_
  refine OW.callv (Wn.plain rfl) rfl Tryz.call96 rfl (c_Div _ _ (by assumption) (by omega) (by omega)) (by repeat constructor) ?_
  refine Oy rfl (Yl.move rfl) ?_
  refine Oy rfl (Yl.extract rfl (by repeat constructor)) ?_
  refine Oy rfl (Yl.extract rfl (by repeat constructor)) ?_
  refine Oy rfl (Yl.extract rfl (by repeat constructor)) ?_
  refine OW.alloc (Wn.plain rfl) rfl Tryz.zeroValue85 (by constructor) (fun b4 => ?_)
  refine OW.store (Wn.plain rfl) Tryz.sizeOf85 rfl rfl (by constructor) (by repeat constructor) rfl (by repeat constructor) (by repeat constructor) ?_
  refine Oy rfl (Yl.assign rfl) ?_
  refine Oy rfl (Yl.assign rfl) ?_
  refine OW.nil ?_
  refine Wr ?_
  refine Oy rfl (Yl.load ⟨Tryz.isAgg85, Tryz.sizeOf85⟩ rfl (by repeat constructor) (by repeat constructor)) ?_
  refine OW.callv (Wn.plain rfl) rfl Tryz.call246 rfl (c_Int _ hi) (by repeat constructor) ?_
  refine Oy rfl (Yl.move rfl) ?_
  refine Oy rfl (Yl.extract rfl (by repeat constructor)) ?_
  refine Oy rfl (Yl.extract rfl (by repeat constructor)) ?_
  refine Oy rfl (Yl.assign rfl) ?_
  refine Oy rfl (Yl.assign rfl) ?_
  refine OW.nil ?_
  refine W.seq ?_
  refine Wr ?_
  refine Oy rfl (Yl.move rfl) ?_
  refine Oy rfl (Yl.neq rfl rfl) ?_
  refine Oy rfl (Yl.move rfl) ?_
  refine OW.split (t := 37) rfl (fun hq2 => ?_) (fun hq2 => ?_)
  ·have hq2d := of_decide_eq_true hq2
   have hn := int_no hq2d
   rw [raisedM_n hn, hn]
   refine OW.not (Wn.not rfl rfl rfl hq2) rfl ?_
   refine OW.not (Wn.not rfl rfl rfl hq2) rfl ?_
   refine OW.not (Wn.not rfl rfl rfl hq2) rfl ?_
   refine Oy rfl (Yl.pick_true rfl hq2 rfl) ?_
   refine OW.nil ?_
   refine W.cond_true rfl ?_
   refine Wr ?_
   refine Oy rfl (Yl.build (is := []) (xs := []) st_37 rfl rfl (by repeat constructor)) ?_
   refine OW.store (Wn.plain rfl) Tryz.sizeOf37 rfl rfl (by constructor) (by repeat constructor) rfl (by repeat constructor) (by repeat constructor) ?_
   refine Oy rfl (Yl.assign rfl) ?_
   refine OW.nil ?_
   refine W.ret ?_
   refine Fin.mk (Rsl.of2 rfl (.cell ⟨Tryz.isAgg37, Tryz.sizeOf37⟩ rfl (by repeat constructor) (by repeat constructor)) (.tmp rfl)) ⟨?_, rfl⟩ (by repeat constructor) (by repeat constructor)
   rfl
  ·have hq2d := of_decide_eq_false hq2
   have hk := int_ok hq2d
   rw [show (if -9223372036854775808 ≤ c / s.D ∧ c / s.D ≤ 9223372036854775807 then c / s.D else 0) = c / s.D from if_pos hk]
   refine OW.yl (Wn.run rfl rfl rfl hq2) rfl (Yl.move rfl) ?_
   refine OW.callv (Wn.run rfl rfl rfl hq2) rfl Tryz.call91 rfl (c_lback _) (by repeat constructor) ?_
   refine OW.yl (Wn.run rfl rfl rfl hq2) rfl (Yl.not rfl) ?_
   refine Oy rfl (Yl.pick_false rfl hq2 rfl) ?_
   refine OW.nil ?_
   refine W.cond rfl (fun hq3 => ?_) (fun hq3 => ?_)
   ·have hq3n := not_t hq3
    have hn := hq3n
    rw [raisedM_n hn, hn]
    refine Wr ?_
    refine Oy rfl (Yl.build (is := []) (xs := []) st_37 rfl rfl (by repeat constructor)) ?_
    refine OW.store (Wn.plain rfl) Tryz.sizeOf37 rfl rfl (by constructor) (by repeat constructor) rfl (by repeat constructor) (by repeat constructor) ?_
    refine Oy rfl (Yl.assign rfl) ?_
    refine OW.nil ?_
    refine W.ret ?_
    refine Fin.mk (Rsl.of2 rfl (.cell ⟨Tryz.isAgg37, Tryz.sizeOf37⟩ rfl (by repeat constructor) (by repeat constructor)) (.tmp rfl)) ⟨?_, rfl⟩ (by repeat constructor) (by repeat constructor)
    rfl
   ·have hq3n := not_f hq3
    have hn := hq3n
    rw [raisedM_y hn, hn]
    refine W.skip ?_
    refine Wr ?_
    refine Oy rfl (Yl.move rfl) ?_
    refine Oy rfl (Yl.move rfl) ?_
    refine Oy rfl (Yl.fieldL 0 (fa_146_0) rfl rfl) ?_
    refine Oy rfl (Yl.load1 Tryz.isAgg2 rfl (by repeat constructor) (by repeat constructor)) ?_
    refine Oy rfl (Yl.fieldL 1 (fa_146_1) rfl rfl) ?_
    refine Oy rfl (Yl.load1 Tryz.isAgg2 rfl (by repeat constructor) (by repeat constructor)) ?_
    refine Oy rfl (Yl.build (is := [0, 1, 2, 3]) (xs := [.tmp 43, .tmp 44, .tmp 46, .tmp 48]) st_37 rfl rfl (by repeat constructor)) ?_
    refine OW.store (Wn.plain rfl) Tryz.sizeOf37 rfl rfl (by constructor) (by repeat constructor) rfl (by repeat constructor) (by repeat constructor) ?_
    refine Oy rfl (Yl.assign rfl) ?_
    refine OW.nil ?_
    refine W.ret ?_
    refine Fin.mk (Rsl.of2 rfl (.cell ⟨Tryz.isAgg37, Tryz.sizeOf37⟩ rfl (by repeat constructor) (by repeat constructor)) (.tmp rfl)) ⟨?_, rfl⟩ (by repeat constructor) (by repeat constructor)
    rfl
end Go.Yb
