/-
  A part of the proof of windowBands_holds: see the text that holds it. No conditions of its own.
-/
import Derived.Test.YtbfhhinhjgdgpaaGreatDoorWin5
namespace Go.Yb
open Go Go.Proofs Go.RowKit

theorem neb_of {a b x y r : Bool} (ha : a = x) (hb : b = y) (h : (!(x == y)) = r) : (!(a == b)) = r := by rw [ha, hb, h]
def l4 : List Pt := [⟨0, 0⟩, ⟨1, 1⟩, ⟨2, 2⟩, ⟨3, 3⟩]
def s4 : Sg := ⟨2, [⟨0, 1, 4⟩], ⟨0, 0, 1, 1⟩, [], 0⟩
theorem wk0 : bothE l4 0 = 0 := by decide
theorem wk1 : (madeW 1 l4 0).length = 4 := by decide +kernel
theorem wk2 : bestM l4 0 = (2, [s4]) := by decide +kernel
theorem eq_len_f {α : Type} [DecidableEq α] {l m : List α} (h : (l.length : Int) ≠ (m.length : Int)) : decide (l = m) = false := decide_eq_false fun e => h (by rw [e])
theorem eq_at_f {α : Type} [DecidableEq α] {l m : List α} {i : Nat} {y z : α} (hy : l[i]? = some y) (hz : m[i]? = some z) (h : decide (y = z) = false) : decide (l = m) = false := decide_eq_false fun e => by
  subst e
  rw [hy] at hz
  exact of_decide_eq_false h (Option.some.inj hz)
theorem eq_t {α : Type} [DecidableEq α] {l m : List α} {i : Nat} (h : l.take i = m.take i) (h1 : l.length ≤ i) (h2 : m.length ≤ i) : decide (l = m) = true := decide_eq_true (by rwa [List.take_of_length_le h1, List.take_of_length_le h2] at h)
theorem eq_go {α : Type} [DecidableEq α] {l m : List α} {i : Nat} {y z : α} (hy : l[i]? = some y) (hz : m[i]? = some z) (h : l.take i = m.take i) (he : decide (y = z) = true) : l.take (i + 1) = m.take (i + 1) := by
 rw [take_at hy, take_at hz, h, of_decide_eq_true he]
theorem own_take {α : Type} (l : List α) (n : Nat) : l.take n = (l.drop 0).take (min l.length n - 0) := by
 rw [List.drop_zero, Nat.sub_zero]
 by_cases h : n ≤ l.length
 ·rw [Nat.min_eq_right h]
 ·rw [Nat.min_eq_left (by omega), List.take_of_length_le (by omega), List.take_of_length_le (Nat.le_refl _)]
theorem eqT_34 (a0 a1 b0 b1 : Int) (w : World) : (Op.equalIn 10000 34 (.agg #[.int .i64 a0, .int .i64 a1]) (.agg #[.int .i64 b0, .int .i64 b1])).run Tryz.prog w = .ok (a0 == b0 && a1 == b1) w := by
 have hS : Tryz.prog.underlying 34 = some (.struct (Tryz.prog.fieldsOf 34)) := by kernel_rfl
 have hp : Tryz.prog.stoodInHeld 34 = false := by kernel_rfl
 have u2 := Tryz.underlying2
 rw [show (10000 : Nat) = 9999 + 1 from rfl, run_equalIn_agg w 9999 34 _ _ hS hp]
 simp only [Program.fieldsOf, Tryz.underlying34]
 go_simp
 by_cases h0 : a0 = b0 <;> by_cases h1 : a1 = b1 <;> simp [h0, h1]
theorem eqv_34 (s t : Pt) : EqT Tryz.prog 34 (encT s) (encT t) (decide (s = t)) := ⟨by kernel_rfl, fun w => by
 have h := eqT_34 s.T s.V t.T t.V w
 have e : (s.T == t.T && s.V == t.V) = decide (s = t) := by
  rw [Bool.eq_iff_iff]
  obtain ⟨a0, a1⟩ := s; obtain ⟨b0, b1⟩ := t
  simp [and_assoc]
 rw [e] at h
 exact h⟩
theorem eqT_42 (a0 a1 a2 b0 b1 b2 : Int) (w : World) : (Op.equalIn 10000 42 (.agg #[.int .i64 a0, .int .i64 a1, .int .i64 a2]) (.agg #[.int .i64 b0, .int .i64 b1, .int .i64 b2])).run Tryz.prog w = .ok (a0 == b0 && a1 == b1 && a2 == b2) w := by
 have hS : Tryz.prog.underlying 42 = some (.struct (Tryz.prog.fieldsOf 42)) := by kernel_rfl
 have hp : Tryz.prog.stoodInHeld 42 = false := by kernel_rfl
 have u2 := Tryz.underlying2
 rw [show (10000 : Nat) = 9999 + 1 from rfl, run_equalIn_agg w 9999 42 _ _ hS hp]
 simp only [Program.fieldsOf, Tryz.underlying42]
 go_simp
 by_cases h0 : a0 = b0 <;> by_cases h1 : a1 = b1 <;> by_cases h2 : a2 = b2 <;> simp [h0, h1, h2]
theorem eqv_42 (s t : Bnd) : EqT Tryz.prog 42 (encB s) (encB t) (decide (s = t)) := ⟨by kernel_rfl, fun w => by
 have h := eqT_42 s.T s.Lo s.Hi t.T t.Lo t.Hi w
 have e : (s.T == t.T && s.Lo == t.Lo && s.Hi == t.Hi) = decide (s = t) := by
  rw [Bool.eq_iff_iff]
  obtain ⟨a0, a1, a2⟩ := s; obtain ⟨b0, b1, b2⟩ := t
  simp [and_assoc]
 rw [e] at h
 exact h⟩
theorem c_eqPts (l m : List Pt) (a : Option Addr) (c : Nat) (a2 : Option Addr) (c2 : Nat) : FnV Tryz.prog 15 #[.slice a l.length c, .slice a2 m.length c2] [rowI 2 encT l a c, rowI 2 encT m a2 c2] (.bool (decide (l = m))) := by
 refine FnC.go (m := 26) Tryz.func15 Tryz.ntmps15 rfl (Nat.le_of_ble_eq_true rfl) (fun Lf => ?_)
 refine W.fact (Sl.bound (a := a) (by repeat constructor)) ?_
 intro hbd
 refine Wr ?_
 refine Oy rfl (Yl.assign rfl) ?_
 refine OW.nil ?_
 refine W.seq ?_
 refine Wr ?_
 refine Oy rfl (Yl.move rfl) ?_
 refine Oy rfl (Yl.len ⟨Tryz.underlying22, Tryz.sizeOf34⟩ rfl) ?_
 refine Oy rfl (Yl.move rfl) ?_
 refine Oy rfl (Yl.len ⟨Tryz.underlying22, Tryz.sizeOf34⟩ rfl) ?_
 refine Oy rfl (Yl.neq rfl rfl) ?_
 refine OW.nil ?_
 refine W.cond rfl (fun hq1 => ?_) (fun hq1 => ?_)
 ·have hq1d := of_decide_eq_true hq1
  have hfin := eq_len_f (l := l) (m := m) (by omega)
  refine Wr ?_
  refine Oy rfl (Yl.assign rfl) ?_
  refine OW.nil ?_
  refine W.ret ?_
  refine Fin.mk (Rsl.one rfl rfl) ⟨?_, rfl⟩ (by repeat constructor) (by repeat constructor)
  rw [hfin]
 ·have hq1d := of_decide_eq_false hq1
  refine W.skip ?_
  refine W.seq ?_
  refine Wr ?_
  refine Oy rfl (Yl.move rfl) ?_
  refine Oy rfl (Yl.len ⟨Tryz.underlying22, Tryz.sizeOf34⟩ rfl) ?_
  refine Oy rfl (Yl.move rfl) ?_
  refine OW.nil ?_
  refine W.block ?_
  refine W.loopS (X := (Nat)) (fun (i : (Nat)) => (i ≤ l.length ∧ (l.take i = m.take i) : Prop)) (fun (i : (Nat)) => ([(13, .int .i64 (i : Int))] : Env)) (fun (i : (Nat)) => ([] : List Res)) (fun (i : (Nat)) => (l.length - i : Nat)) 0 [(0, _), (1, _), (12, _)] (by exact ⟨Nat.zero_le _, rfl⟩) (Le.cons rfl (Le.cons rfl (Le.cons rfl (Le.cons rfl (Le.nil _))))) (by repeat constructor) ?_
  rintro i ⟨hi, hinv⟩
  show W _ _ _ _ _ _ ([(13, .int .i64 (i : Int))] ++ _) _ ([] ++ _)
  refine Wr ?_
  refine Oy rfl (Yl.lss rfl rfl) ?_
  refine OW.nil ?_
  refine W.seq ?_
  refine W.cond rfl (fun hq2 => ?_) (fun hq2 => ?_)
  ·have hq2d := of_decide_eq_true hq2
   obtain ⟨y, hy, hdr⟩ := drop_at (l := l) (i := i) (by omega)
   obtain ⟨z, hz⟩ : ∃ z, m[i]? = some z := ⟨_, List.getElem?_eq_getElem (by omega)⟩
   refine W.skip ?_
   refine W.seq ?_
   refine W.block ?_
   refine Wr ?_
   refine Oy rfl (Yl.move rfl) ?_
   refine Oy rfl (Yl.assign rfl) ?_
   refine OW.nil ?_
   refine W.seq ?_
   refine W.draw mixed ?_
   refine Aq (i := 0) rfl (Wn.plain rfl) rfl (fun _ => Yl.move rfl) ?_
   refine Aq (i := 1) rfl (Wn.plain rfl) rfl (fun _ => Yl.move rfl) ?_
   refine AW.fact (Sl.isSome (a := a) (by repeat constructor) (by omega)) ?_
   rintro ⟨p1, hp1⟩; try dsimp only at hp1
   subst hp1
   refine Aq (i := 2) rfl (Wn.plain rfl) rfl (fun _ => Yl.indexS i ⟨Tryz.underlying22, Tryz.sizeOf34⟩ rfl rfl rfl (by omega)) ?_
   refine Al (i := 3) rfl (Wn.plain rfl) rfl (by repeat constructor) (Yl.loadE ⟨Tryz.isAgg34, Tryz.sizeOf34⟩ rfl .head (map_at hy)) ?_
   refine Aq (i := 4) rfl (Wn.plain rfl) rfl (fun _ => Yl.move rfl) ?_
   refine Aq (i := 5) rfl (Wn.plain rfl) rfl (fun _ => Yl.move rfl) ?_
   refine AW.fact (Sl.isSome (a := a2) (by repeat constructor) (by omega)) ?_
   rintro ⟨p2, hp2⟩; try dsimp only at hp2
   subst hp2
   refine Aq (i := 6) rfl (Wn.plain rfl) rfl (fun _ => Yl.indexS i ⟨Tryz.underlying22, Tryz.sizeOf34⟩ rfl rfl rfl (by omega)) ?_
   refine Al (i := 7) rfl (Wn.plain rfl) rfl (by repeat constructor) (Yl.loadE ⟨Tryz.isAgg34, Tryz.sizeOf34⟩ rfl .head (map_at hz)) ?_
   refine Aq (i := 8) rfl (Wn.plain rfl) rfl (fun _ => Yl.neqst (eqv_34 _ _) rfl rfl) ?_
   refine AW.done (by kernel_rfl) ?_
   refine W.cond rfl (fun hq3 => ?_) (fun hq3 => ?_)
   ·have hq3n := not_t hq3
    have hq3d := of_decide_eq_false hq3n
    have hfin := eq_at_f hy hz (not_t hq3)
    refine Wr ?_
    refine Oy rfl (Yl.assign rfl) ?_
    refine OW.nil ?_
    refine W.ret ?_
    refine Fin.mk (Rsl.one rfl rfl) ⟨?_, rfl⟩ (by repeat constructor) (by repeat constructor)
    rw [hfin]
   ·have hq3n := not_f hq3
    have hq3d := of_decide_eq_true hq3n
    refine W.skip ?_
    refine W.region ?_
    refine Oy rfl (Yl.add rfl rfl (by omega)) ?_
    refine Oy rfl (Yl.move rfl) ?_
    refine OW.nil ?_
    refine ⟨i + 1, _, ⟨by omega, ?_⟩, (Le.cons rfl (Le.cons rfl (Le.cons rfl (Le.cons rfl (Le.nil _))))), rfl, by repeat constructor, by repeat constructor, by first | omega | (dsimp only; omega)⟩
    exact eq_go hy hz hinv (not_f hq3)
  ·have hq2d := of_decide_eq_false hq2
   have hfin := eq_t hinv (by omega) (by omega)
   refine W.exit ?_
   refine Wr ?_
   refine Oy rfl (Yl.assign rfl) ?_
   refine OW.nil ?_
   refine W.ret ?_
   refine Fin.mk (Rsl.one rfl rfl) ⟨?_, rfl⟩ (by repeat constructor) (by repeat constructor)
   rw [hfin]
theorem c_eqBds (l m : List Bnd) (a : Option Addr) (c : Nat) (a2 : Option Addr) (c2 : Nat) : FnV Tryz.prog 20 #[.slice a l.length c, .slice a2 m.length c2] [rowI 3 encB l a c, rowI 3 encB m a2 c2] (.bool (decide (l = m))) := by
 refine FnC.go (m := 26) Tryz.func20 Tryz.ntmps20 rfl (Nat.le_of_ble_eq_true rfl) (fun Lf => ?_)
 refine W.fact (Sl.bound (a := a) (by repeat constructor)) ?_
 intro hbd
 refine Wr ?_
 refine Oy rfl (Yl.assign rfl) ?_
 refine OW.nil ?_
 refine W.seq ?_
 refine Wr ?_
 refine Oy rfl (Yl.move rfl) ?_
 refine Oy rfl (Yl.len ⟨Tryz.underlying38, Tryz.sizeOf42⟩ rfl) ?_
 refine Oy rfl (Yl.move rfl) ?_
 refine Oy rfl (Yl.len ⟨Tryz.underlying38, Tryz.sizeOf42⟩ rfl) ?_
 refine Oy rfl (Yl.neq rfl rfl) ?_
 refine OW.nil ?_
 refine W.cond rfl (fun hq1 => ?_) (fun hq1 => ?_)
 ·have hq1d := of_decide_eq_true hq1
  have hfin := eq_len_f (l := l) (m := m) (by omega)
  refine Wr ?_
  refine Oy rfl (Yl.assign rfl) ?_
  refine OW.nil ?_
  refine W.ret ?_
  refine Fin.mk (Rsl.one rfl rfl) ⟨?_, rfl⟩ (by repeat constructor) (by repeat constructor)
  rw [hfin]
 ·have hq1d := of_decide_eq_false hq1
  refine W.skip ?_
  refine W.seq ?_
  refine Wr ?_
  refine Oy rfl (Yl.move rfl) ?_
  refine Oy rfl (Yl.len ⟨Tryz.underlying38, Tryz.sizeOf42⟩ rfl) ?_
  refine Oy rfl (Yl.move rfl) ?_
  refine OW.nil ?_
  refine W.block ?_
  refine W.loopS (X := (Nat)) (fun (i : (Nat)) => (i ≤ l.length ∧ (l.take i = m.take i) : Prop)) (fun (i : (Nat)) => ([(13, .int .i64 (i : Int))] : Env)) (fun (i : (Nat)) => ([] : List Res)) (fun (i : (Nat)) => (l.length - i : Nat)) 0 [(0, _), (1, _), (12, _)] (by exact ⟨Nat.zero_le _, rfl⟩) (Le.cons rfl (Le.cons rfl (Le.cons rfl (Le.cons rfl (Le.nil _))))) (by repeat constructor) ?_
  rintro i ⟨hi, hinv⟩
  show W _ _ _ _ _ _ ([(13, .int .i64 (i : Int))] ++ _) _ ([] ++ _)
  refine Wr ?_
  refine Oy rfl (Yl.lss rfl rfl) ?_
  refine OW.nil ?_
  refine W.seq ?_
  refine W.cond rfl (fun hq2 => ?_) (fun hq2 => ?_)
  ·have hq2d := of_decide_eq_true hq2
   obtain ⟨y, hy, hdr⟩ := drop_at (l := l) (i := i) (by omega)
   obtain ⟨z, hz⟩ : ∃ z, m[i]? = some z := ⟨_, List.getElem?_eq_getElem (by omega)⟩
   refine W.skip ?_
   refine W.seq ?_
   refine W.block ?_
   refine Wr ?_
   refine Oy rfl (Yl.move rfl) ?_
   refine Oy rfl (Yl.assign rfl) ?_
   refine OW.nil ?_
   refine W.seq ?_
   refine W.draw mixed ?_
   refine Aq (i := 0) rfl (Wn.plain rfl) rfl (fun _ => Yl.move rfl) ?_
   refine Aq (i := 1) rfl (Wn.plain rfl) rfl (fun _ => Yl.move rfl) ?_
   refine AW.fact (Sl.isSome (a := a) (by repeat constructor) (by omega)) ?_
   rintro ⟨p1, hp1⟩; try dsimp only at hp1
   subst hp1
   refine Aq (i := 2) rfl (Wn.plain rfl) rfl (fun _ => Yl.indexS i ⟨Tryz.underlying38, Tryz.sizeOf42⟩ rfl rfl rfl (by omega)) ?_
   refine Al (i := 3) rfl (Wn.plain rfl) rfl (by repeat constructor) (Yl.loadE ⟨Tryz.isAgg42, Tryz.sizeOf42⟩ rfl .head (map_at hy)) ?_
   refine Aq (i := 4) rfl (Wn.plain rfl) rfl (fun _ => Yl.move rfl) ?_
   refine Aq (i := 5) rfl (Wn.plain rfl) rfl (fun _ => Yl.move rfl) ?_
   refine AW.fact (Sl.isSome (a := a2) (by repeat constructor) (by omega)) ?_
   rintro ⟨p2, hp2⟩; try dsimp only at hp2
   subst hp2
   refine Aq (i := 6) rfl (Wn.plain rfl) rfl (fun _ => Yl.indexS i ⟨Tryz.underlying38, Tryz.sizeOf42⟩ rfl rfl rfl (by omega)) ?_
   refine Al (i := 7) rfl (Wn.plain rfl) rfl (by repeat constructor) (Yl.loadE ⟨Tryz.isAgg42, Tryz.sizeOf42⟩ rfl .head (map_at hz)) ?_
   refine Aq (i := 8) rfl (Wn.plain rfl) rfl (fun _ => Yl.neqst (eqv_42 _ _) rfl rfl) ?_
   refine AW.done (by kernel_rfl) ?_
   refine W.cond rfl (fun hq3 => ?_) (fun hq3 => ?_)
   ·have hq3n := not_t hq3
    have hq3d := of_decide_eq_false hq3n
    have hfin := eq_at_f hy hz (not_t hq3)
    refine Wr ?_
    refine Oy rfl (Yl.assign rfl) ?_
    refine OW.nil ?_
    refine W.ret ?_
    refine Fin.mk (Rsl.one rfl rfl) ⟨?_, rfl⟩ (by repeat constructor) (by repeat constructor)
    rw [hfin]
   ·have hq3n := not_f hq3
    have hq3d := of_decide_eq_true hq3n
    refine W.skip ?_
    refine W.region ?_
    refine Oy rfl (Yl.add rfl rfl (by omega)) ?_
    refine Oy rfl (Yl.move rfl) ?_
    refine OW.nil ?_
    refine ⟨i + 1, _, ⟨by omega, ?_⟩, (Le.cons rfl (Le.cons rfl (Le.cons rfl (Le.cons rfl (Le.nil _))))), rfl, by repeat constructor, by repeat constructor, by first | omega | (dsimp only; omega)⟩
    exact eq_go hy hz hinv (not_f hq3)
  ·have hq2d := of_decide_eq_false hq2
   have hfin := eq_t hinv (by omega) (by omega)
   refine W.exit ?_
   refine Wr ?_
   refine Oy rfl (Yl.assign rfl) ?_
   refine OW.nil ?_
   refine W.ret ?_
   refine Fin.mk (Rsl.one rfl rfl) ⟨?_, rfl⟩ (by repeat constructor) (by repeat constructor)
   rw [hfin]
theorem c_own (l : List Pt) (a : Option Addr) (c : Nat) : FnC Tryz.prog 10 #[.slice a l.length c] [rowI 2 encT l a c] (RetRow 2 encT (l.take 40)) := by
 refine FnC.go (m := 10) Tryz.func10 Tryz.ntmps10 rfl (Nat.le_of_ble_eq_true rfl) (fun Lf => ?_)
 refine Wr ?_
 refine Oy rfl (Yl.assign rfl) ?_
 refine OW.nil ?_
 refine Wr ?_
 refine OW.lit (is := []) (xs := []) (Wn.plain rfl) rfl rw_22 rfl rfl rfl (by decide) (by repeat constructor) (fun b1 => ?_)
 refine OW.ent (Ent.lit0 (sz := 2) encT) ?_
 refine Oy rfl (Yl.move rfl) ?_
 refine Oy rfl (Yl.move rfl) ?_
 refine Oy rfl (Yl.len ⟨Tryz.underlying22, Tryz.sizeOf34⟩ rfl) ?_
 refine Oy rfl (Yl.min2 rfl rfl) ?_
 refine OW.cutM (l := 0) (h := min l.length 40) (q := c) (l.take 40) (Wn.plain rfl) rfl ⟨Tryz.underlying22, Tryz.sizeOf34⟩ rfl .none (.some rfl (by omega)) .none rfl (by repeat constructor) (by exact own_take l 40) (by omega) (by omega) (by omega) (by omega) (fun a1 c1 => ?_)
 refine OW.appS  (Wn.plain rfl) rfl rw_22 rfl rfl (by repeat constructor) ⟨_, by repeat constructor⟩ (fun _ => rfl) (fun _ => by repeat constructor) (by simp; omega) (by simp; omega) (fun a2 c2 => ?_)
 refine Oy rfl (Yl.assign rfl) ?_
 refine OW.nil ?_
 refine W.ret ?_
 refine Fin.ent (Ent.sealP (f := encT) (E := 34) (sz := 2) (by repeat constructor) (fun _ => rfl)) ?_
 exact Fin.mk (Rsl.one rfl rfl) ⟨_, _, rfl, rfl⟩ (by repeat constructor) (by repeat constructor)
theorem c_refPoint (p : Pt) : FnV Tryz.prog 51 #[.agg (encT p).toArray] [] (.bool (ptB p)) := by
 refine FnC.go (m := 21) Tryz.func51 Tryz.ntmps51 rfl (Nat.le_of_ble_eq_true rfl) (fun Lf => ?_)
 refine Wr ?_
 refine OW.box (Wn.plain rfl) rfl rfl (by constructor) (fun b1 => ?_)
 refine Oy rfl (Yl.assign rfl) ?_
 refine OW.nil ?_
 refine Wr ?_
 refine Oy rfl (Yl.fieldL 0 (fa_34_0) rfl rfl) ?_
 refine Oy rfl (Yl.load1 Tryz.isAgg2 rfl (by repeat constructor) (by repeat constructor)) ?_
 refine Oy rfl (Yl.geq rfl rfl) ?_
 refine Oy rfl (Yl.move rfl) ?_
 refine OW.split (t := 6) rfl (fun hq1 => ?_) (fun hq1 => ?_)
 ·have hq1d := of_decide_eq_true hq1
  refine OW.yl (Wn.run rfl rfl rfl hq1) rfl (Yl.fieldL 0 (fa_34_0) rfl rfl) ?_
  refine OW.yl (Wn.run rfl rfl rfl hq1) rfl (Yl.load1 Tryz.isAgg2 rfl (by repeat constructor) (by repeat constructor)) ?_
  refine OW.yl (Wn.run rfl rfl rfl hq1) rfl (Yl.leq rfl rfl) ?_
  refine Oy rfl (Yl.pick_true rfl hq1 rfl) ?_
  refine Oy rfl (Yl.move rfl) ?_
  refine OW.split (t := 11) rfl (fun hq2 => ?_) (fun hq2 => ?_)
  ·have hq2d := of_decide_eq_true hq2
   refine OW.yl (Wn.run rfl rfl rfl hq2) rfl (Yl.fieldL 1 (fa_34_1) rfl rfl) ?_
   refine OW.yl (Wn.run rfl rfl rfl hq2) rfl (Yl.load1 Tryz.isAgg2 rfl (by repeat constructor) (by repeat constructor)) ?_
   refine OW.yl (Wn.run rfl rfl rfl hq2) rfl (Yl.geq rfl rfl) ?_
   refine Oy rfl (Yl.pick_true rfl hq2 rfl) ?_
   refine Oy rfl (Yl.move rfl) ?_
   refine OW.split (t := 16) rfl (fun hq3 => ?_) (fun hq3 => ?_)
   ·have hq3d := of_decide_eq_true hq3
    refine OW.yl (Wn.run rfl rfl rfl hq3) rfl (Yl.fieldL 1 (fa_34_1) rfl rfl) ?_
    refine OW.yl (Wn.run rfl rfl rfl hq3) rfl (Yl.load1 Tryz.isAgg2 rfl (by repeat constructor) (by repeat constructor)) ?_
    refine OW.yl (Wn.run rfl rfl rfl hq3) rfl (Yl.leq rfl rfl) ?_
    refine Oy rfl (Yl.pick_true rfl hq3 rfl) ?_
    refine Oy rfl (Yl.assign rfl) ?_
    refine OW.nil ?_
    refine W.ret ?_
    refine Fin.mk (Rsl.one rfl rfl) ⟨?_, rfl⟩ (by repeat constructor) (by repeat constructor)
    refine boolv ?_
    unfold ptB
    first | (refine t_dec ?_; omega) | (refine f_dec ?_; omega) | (refine decide_eq_decide.2 ?_; omega)
   ·have hq3d := of_decide_eq_false hq3
    refine OW.not (Wn.not rfl rfl rfl hq3) rfl ?_
    refine OW.not (Wn.not rfl rfl rfl hq3) rfl ?_
    refine OW.not (Wn.not rfl rfl rfl hq3) rfl ?_
    refine Oy rfl (Yl.pick_false rfl hq3 rfl) ?_
    refine Oy rfl (Yl.assign rfl) ?_
    refine OW.nil ?_
    refine W.ret ?_
    refine Fin.mk (Rsl.one rfl rfl) ⟨?_, rfl⟩ (by repeat constructor) (by repeat constructor)
    refine boolv ?_
    unfold ptB
    first | (refine t_dec ?_; omega) | (refine f_dec ?_; omega) | (refine decide_eq_decide.2 ?_; omega)
  ·have hq2d := of_decide_eq_false hq2
   refine OW.not (Wn.not rfl rfl rfl hq2) rfl ?_
   refine OW.not (Wn.not rfl rfl rfl hq2) rfl ?_
   refine OW.not (Wn.not rfl rfl rfl hq2) rfl ?_
   refine Oy rfl (Yl.pick_false rfl hq2 rfl) ?_
   refine Oy rfl (Yl.move rfl) ?_
   refine OW.not (Wn.not rfl rfl rfl rfl) rfl ?_
   refine OW.not (Wn.not rfl rfl rfl rfl) rfl ?_
   refine OW.not (Wn.not rfl rfl rfl rfl) rfl ?_
   refine Oy rfl (Yl.pick_false rfl rfl rfl) ?_
   refine Oy rfl (Yl.assign rfl) ?_
   refine OW.nil ?_
   refine W.ret ?_
   refine Fin.mk (Rsl.one rfl rfl) ⟨?_, rfl⟩ (by repeat constructor) (by repeat constructor)
   refine boolv ?_
   unfold ptB
   first | (refine t_dec ?_; omega) | (refine f_dec ?_; omega) | (refine decide_eq_decide.2 ?_; omega)
 ·have hq1d := of_decide_eq_false hq1
  refine OW.not (Wn.not rfl rfl rfl hq1) rfl ?_
  refine OW.not (Wn.not rfl rfl rfl hq1) rfl ?_
  refine OW.not (Wn.not rfl rfl rfl hq1) rfl ?_
  refine Oy rfl (Yl.pick_false rfl hq1 rfl) ?_
  refine Oy rfl (Yl.move rfl) ?_
  refine OW.not (Wn.not rfl rfl rfl rfl) rfl ?_
  refine OW.not (Wn.not rfl rfl rfl rfl) rfl ?_
  refine OW.not (Wn.not rfl rfl rfl rfl) rfl ?_
  refine Oy rfl (Yl.pick_false rfl rfl rfl) ?_
  refine Oy rfl (Yl.move rfl) ?_
  refine OW.not (Wn.not rfl rfl rfl rfl) rfl ?_
  refine OW.not (Wn.not rfl rfl rfl rfl) rfl ?_
  refine OW.not (Wn.not rfl rfl rfl rfl) rfl ?_
  refine Oy rfl (Yl.pick_false rfl rfl rfl) ?_
  refine Oy rfl (Yl.assign rfl) ?_
  refine OW.nil ?_
  refine W.ret ?_
  refine Fin.mk (Rsl.one rfl rfl) ⟨?_, rfl⟩ (by repeat constructor) (by repeat constructor)
  refine boolv ?_
  unfold ptB
  first | (refine t_dec ?_; omega) | (refine f_dec ?_; omega) | (refine decide_eq_decide.2 ?_; omega)

theorem ptB_t {p : Pt} (h : ptB p = true) : 0 ≤ p.T ∧ p.T ≤ 281474976710656 ∧ -2305843009213693952 ≤ p.V ∧ p.V ≤ 2305843009213693952 := of_decide_eq_true h
theorem ptB_f {p : Pt} (h : ptB p = false) : ¬ (0 ≤ p.T ∧ p.T ≤ 281474976710656 ∧ -2305843009213693952 ≤ p.V ∧ p.V ≤ 2305843009213693952) := of_decide_eq_false h

theorem c_refRight (l : List Pt) (a : Option Addr) (c : Nat) : FnV Tryz.prog 19 #[.slice a l.length c] [rowI 2 encT l a c] (.bool (pointsM l)) := by
 refine FnC.go (m := 42) Tryz.func19 Tryz.ntmps19 rfl (Nat.le_of_ble_eq_true rfl) (fun Lf => ?_)
 refine Wr ?_
 refine Oy rfl (Yl.assign rfl) ?_
 refine OW.nil ?_
 refine W.seq ?_
 refine Wr ?_
 refine Oy rfl (Yl.move rfl) ?_
 refine Oy rfl (Yl.len ⟨Tryz.underlying22, Tryz.sizeOf34⟩ rfl) ?_
 refine Oy rfl (Yl.lss rfl rfl) ?_
 refine Oy rfl (Yl.move rfl) ?_
 refine OW.split (t := 7) rfl (fun hq1 => ?_) (fun hq1 => ?_)
 ·have hq1d := of_decide_eq_true hq1
  refine OW.not (Wn.not rfl rfl rfl hq1) rfl ?_
  refine OW.not (Wn.not rfl rfl rfl hq1) rfl ?_
  refine OW.not (Wn.not rfl rfl rfl hq1) rfl ?_
  refine Oy rfl (Yl.pick_true rfl hq1 rfl) ?_
  refine OW.nil ?_
  refine W.cond_true rfl ?_
  refine Wr ?_
  refine Oy rfl (Yl.assign rfl) ?_
  refine OW.nil ?_
  refine W.ret ?_
  refine Fin.mk (Rsl.one rfl rfl) ⟨?_, rfl⟩ (by repeat constructor) (by repeat constructor)
  first | (rw [hv]; done) | (rw [hv]; rfl) | (rw [pts_n (by omega)]; done) | (rw [pts_f (by rw [i1]; exact chkP_f (by omega))]; done) | (rw [pts_f (by rw [i1]; exact chkP_f (by have := ptB_f (by assumption); omega))]; done) | (rw [pts_f (by rw [i1]; exact chkP_f (by have := ptB_f (not_t (by assumption)); omega))]; done)
 ·have hq1d := of_decide_eq_false hq1
  refine OW.yl (Wn.run rfl rfl rfl hq1) rfl (Yl.move rfl) ?_
  refine OW.yl (Wn.run rfl rfl rfl hq1) rfl (Yl.len ⟨Tryz.underlying22, Tryz.sizeOf34⟩ rfl) ?_
  refine OW.yl (Wn.run rfl rfl rfl hq1) rfl (Yl.gtr rfl rfl) ?_
  refine Oy rfl (Yl.pick_false rfl hq1 rfl) ?_
  refine OW.nil ?_
  refine W.cond rfl (fun hq2 => ?_) (fun hq2 => ?_)
  ·have hq2d := of_decide_eq_true hq2
   refine Wr ?_
   refine Oy rfl (Yl.assign rfl) ?_
   refine OW.nil ?_
   refine W.ret ?_
   refine Fin.mk (Rsl.one rfl rfl) ⟨?_, rfl⟩ (by repeat constructor) (by repeat constructor)
   first | (rw [hv]; done) | (rw [hv]; rfl) | (rw [pts_n (by omega)]; done) | (rw [pts_f (by rw [i1]; exact chkP_f (by omega))]; done) | (rw [pts_f (by rw [i1]; exact chkP_f (by have := ptB_f (by assumption); omega))]; done) | (rw [pts_f (by rw [i1]; exact chkP_f (by have := ptB_f (not_t (by assumption)); omega))]; done)
  ·have hq2d := of_decide_eq_false hq2
   refine W.skip ?_
   refine W.seq ?_
   refine Wr ?_
   refine Oy rfl (Yl.assign rfl) ?_
   refine OW.nil ?_
   refine W.block ?_
   refine W.loopS (X := (Nat)) (fun (i : (Nat)) => (i ≤ l.length ∧ chkP (-1) l = chkP (prevP l i) (l.drop i) ∧ -1 ≤ prevP l i : Prop)) (fun (i : (Nat)) => ([(3, .int .i64 (i : Int))] : Env)) (fun (i : (Nat)) => ([] : List Res)) (fun (i : (Nat)) => (l.length - i : Nat)) 0 [(0, _)] (by exact ⟨Nat.zero_le _, rfl, by simp [prevP]⟩) (Le.cons rfl (Le.cons rfl (Le.nil _))) (by repeat constructor) ?_
   rintro i hinv
   show W _ _ _ _ _ _ ([(3, .int .i64 (i : Int))] ++ _) _ ([] ++ _)
   obtain ⟨i0, i1, i2⟩ := hinv
   refine W.seq ?_
   refine Wr ?_
   refine Oy rfl (Yl.move rfl) ?_
   refine Oy rfl (Yl.move rfl) ?_
   refine Oy rfl (Yl.len ⟨Tryz.underlying22, Tryz.sizeOf34⟩ rfl) ?_
   refine Oy rfl (Yl.lss rfl rfl) ?_
   refine OW.nil ?_
   refine W.cond rfl (fun hq3 => ?_) (fun hq3 => ?_)
   ·have hq3d := of_decide_eq_true hq3
    obtain ⟨y, hy, hdr⟩ := drop_at (l := l) (i := i) (by omega)
    rw [hdr] at i1
    refine W.skip ?_
    refine W.seq ?_
    refine W.block ?_
    refine W.seq ?_
    refine W.draw mixed ?_
    refine Aq (i := 0) rfl (Wn.plain rfl) rfl (fun _ => Yl.move rfl) ?_
    refine Aq (i := 1) rfl (Wn.plain rfl) rfl (fun _ => Yl.move rfl) ?_
    refine AW.fact (Sl.isSome (by repeat constructor) (by omega)) ?_
    rintro ⟨p1, hp1⟩; try dsimp only at hp1
    subst hp1
    refine Aq (i := 2) rfl (Wn.plain rfl) rfl (fun _ => Yl.indexS i ⟨Tryz.underlying22, Tryz.sizeOf34⟩ rfl rfl rfl (by omega)) ?_
    refine Al (i := 3) rfl (Wn.plain rfl) rfl (by repeat constructor) (Yl.loadE ⟨Tryz.isAgg34, Tryz.sizeOf34⟩ rfl .head (map_at hy)) ?_
    refine AW.step (i := 4) rfl (by kernel_rfl) (Wn.plain rfl) rfl (Ex.call rfl rfl rfl (FnC.tri0 Tryz.call51 (c_refPoint _)) (by repeat constructor)) (.drop (by kernel_rfl) .nil) ?_
    rintro _ _ ⟨_, ⟨rfl, rfl⟩, rfl⟩; refine ⟨by repeat constructor, ?_⟩
    refine Aq (i := 5) rfl (Wn.plain rfl) rfl (fun _ => Yl.not rfl) ?_
    refine Aq (i := 6) rfl (Wn.plain rfl) rfl (fun _ => Yl.move rfl) ?_
    refine AW.split (t := 24) rfl (fun hq4 => ?_) (fun hq4 => ?_)
    ·have hq4n := not_t hq4
     refine AW.not (i := 7) rfl (by kernel_rfl) (by kernel_rfl) (by kernel_rfl) (Wn.not rfl rfl rfl hq4) rfl ?_
     refine AW.not (i := 8) rfl (by kernel_rfl) (by kernel_rfl) (by kernel_rfl) (Wn.not rfl rfl rfl hq4) rfl ?_
     refine AW.not (i := 9) rfl (by kernel_rfl) (by kernel_rfl) (by kernel_rfl) (Wn.not rfl rfl rfl hq4) rfl ?_
     refine AW.not (i := 10) rfl (by kernel_rfl) (by kernel_rfl) (by kernel_rfl) (Wn.nob rfl rfl rfl) rfl ?_
     refine AW.not (i := 11) rfl (by kernel_rfl) (by kernel_rfl) (by kernel_rfl) (Wn.nob rfl rfl rfl) rfl ?_
     refine AW.not (i := 12) rfl (by kernel_rfl) (by kernel_rfl) (by kernel_rfl) (Wn.nob rfl rfl rfl) rfl ?_
     refine AW.not (i := 13) rfl (by kernel_rfl) (by kernel_rfl) (by kernel_rfl) (Wn.nob rfl rfl rfl) rfl ?_
     refine AW.not (i := 14) rfl (by kernel_rfl) (by kernel_rfl) (by kernel_rfl) (Wn.nob rfl rfl rfl) rfl ?_
     refine AW.not (i := 15) rfl (by kernel_rfl) (by kernel_rfl) (by kernel_rfl) (Wn.nob rfl rfl rfl) rfl ?_
     refine AW.not (i := 16) rfl (by kernel_rfl) (by kernel_rfl) (by kernel_rfl) (Wn.nob rfl rfl rfl) rfl ?_
     refine AW.not (i := 17) rfl (by kernel_rfl) (by kernel_rfl) (by kernel_rfl) (Wn.nob rfl rfl rfl) rfl ?_
     refine AW.not (i := 18) rfl (by kernel_rfl) (by kernel_rfl) (by kernel_rfl) (Wn.nob rfl rfl rfl) rfl ?_
     refine AW.not (i := 19) rfl (by kernel_rfl) (by kernel_rfl) (by kernel_rfl) (Wn.nob rfl rfl rfl) rfl ?_
     refine AW.not (i := 20) rfl (by kernel_rfl) (by kernel_rfl) (by kernel_rfl) (Wn.nob rfl rfl rfl) rfl ?_
     refine AW.not (i := 21) rfl (by kernel_rfl) (by kernel_rfl) (by kernel_rfl) (Wn.nob rfl rfl rfl) rfl ?_
     refine AW.not (i := 22) rfl (by kernel_rfl) (by kernel_rfl) (by kernel_rfl) (Wn.not rfl rfl rfl hq4) rfl ?_
     refine Aq (i := 23) rfl (Wn.plain rfl) rfl (fun _ => Yl.pick_true rfl hq4 rfl) ?_
     refine AW.done (by kernel_rfl) ?_
     refine W.cond_true rfl ?_
     refine Wr ?_
     refine Oy rfl (Yl.assign rfl) ?_
     refine OW.nil ?_
     refine W.ret ?_
     refine Fin.mk (Rsl.one rfl rfl) ⟨?_, rfl⟩ (by repeat constructor) (by repeat constructor)
     first | (rw [hv]; done) | (rw [hv]; rfl) | (rw [pts_n (by omega)]; done) | (rw [pts_f (by rw [i1]; exact chkP_f (by omega))]; done) | (rw [pts_f (by rw [i1]; exact chkP_f (by have := ptB_f (by assumption); omega))]; done) | (rw [pts_f (by rw [i1]; exact chkP_f (by have := ptB_f (not_t (by assumption)); omega))]; done)
    ·have hq4n := not_f hq4
     refine Aq (i := 7) rfl (Wn.run rfl rfl rfl hq4) rfl (fun _ => Yl.move rfl) ?_
     refine Aq (i := 8) rfl (Wn.run rfl rfl rfl hq4) rfl (fun _ => Yl.gtr rfl rfl) ?_
     refine Aq (i := 9) rfl (Wn.run rfl rfl rfl hq4) rfl (fun _ => Yl.move rfl) ?_
     refine AW.split (t := 27) rfl (fun hq5 => ?_) (fun hq5 => ?_)
     ·have hq5d := of_decide_eq_true hq5
      obtain ⟨z, hz⟩ : ∃ z, l[i - 1]? = some z := ⟨_, List.getElem?_eq_getElem (by omega)⟩
      rw [prevP_pos (by omega) hz] at i1
      refine Aq (i := 10) rfl (Wn.run rfl rfl rfl hq5) rfl (fun _ => Yl.move rfl) ?_
      refine Aq (i := 11) rfl (Wn.run rfl rfl rfl hq5) rfl (fun _ => Yl.move rfl) ?_
      refine Aq (i := 12) rfl (Wn.run rfl rfl rfl hq5) rfl (fun _ => Yl.sub rfl rfl (by omega)) ?_
      refine Aq (i := 13) rfl (Wn.run rfl rfl rfl hq5) rfl (fun _ => Yl.indexS (i - 1) ⟨Tryz.underlying22, Tryz.sizeOf34⟩ rfl rfl (by omega) (by omega)) ?_
      refine Aq (i := 14) rfl (Wn.run rfl rfl rfl hq5) rfl (fun _ => Yl.fieldA (fa_34_0) rfl) ?_
      refine Al (i := 15) rfl (Wn.run rfl rfl rfl hq5) rfl (by repeat constructor) (Yl.loadS Tryz.isAgg2 rfl .head (map_at hz) (by repeat constructor)) ?_
      refine Aq (i := 16) rfl (Wn.run rfl rfl rfl hq5) rfl (fun _ => Yl.move rfl) ?_
      refine Aq (i := 17) rfl (Wn.run rfl rfl rfl hq5) rfl (fun _ => Yl.move rfl) ?_
      refine Aq (i := 18) rfl (Wn.run rfl rfl rfl hq5) rfl (fun _ => Yl.indexS i ⟨Tryz.underlying22, Tryz.sizeOf34⟩ rfl rfl rfl (by omega)) ?_
      refine Aq (i := 19) rfl (Wn.run rfl rfl rfl hq5) rfl (fun _ => Yl.fieldA (fa_34_0) rfl) ?_
      refine Al (i := 20) rfl (Wn.run rfl rfl rfl hq5) rfl (by repeat constructor) (Yl.loadS Tryz.isAgg2 rfl .head (map_at hy) (by repeat constructor)) ?_
      refine Aq (i := 21) rfl (Wn.run rfl rfl rfl hq5) rfl (fun _ => Yl.geq rfl rfl) ?_
      refine Aq (i := 22) rfl (Wn.run rfl rfl rfl hq4) rfl (fun _ => Yl.pick_true rfl hq5 rfl) ?_
      refine Aq (i := 23) rfl (Wn.plain rfl) rfl (fun _ => Yl.pick_false rfl hq4 rfl) ?_
      refine AW.done (by kernel_rfl) ?_
      refine W.cond rfl (fun hq6 => ?_) (fun hq6 => ?_)
      ·have hq6d := of_decide_eq_true hq6
       refine Wr ?_
       refine Oy rfl (Yl.assign rfl) ?_
       refine OW.nil ?_
       refine W.ret ?_
       refine Fin.mk (Rsl.one rfl rfl) ⟨?_, rfl⟩ (by repeat constructor) (by repeat constructor)
       first | (rw [hv]; done) | (rw [hv]; rfl) | (rw [pts_n (by omega)]; done) | (rw [pts_f (by rw [i1]; exact chkP_f (by omega))]; done) | (rw [pts_f (by rw [i1]; exact chkP_f (by have := ptB_f (by assumption); omega))]; done) | (rw [pts_f (by rw [i1]; exact chkP_f (by have := ptB_f (not_t (by assumption)); omega))]; done)
      ·have hq6d := of_decide_eq_false hq6
       refine W.skip ?_
       refine W.region ?_
       refine Oy rfl (Yl.move rfl) ?_
       refine Oy rfl (Yl.add rfl rfl (by omega)) ?_
       refine Oy rfl (Yl.assign rfl) ?_
       refine OW.nil ?_
       refine ⟨i + 1, _, ?_, (Le.cons rfl (Le.cons rfl (Le.nil _))), rfl, by repeat constructor, by repeat constructor, by first | omega | (dsimp only; omega)⟩
       have e := prevP_at hy
       have hyp : ptB y = true := by first | exact not_f (by assumption) | assumption
       have hyq := ptB_t hyp
       first | exact ⟨by omega, by rw [i1, e]; exact chkP_y (by omega) (by omega), by rw [e]; omega⟩ | exact ⟨by omega, by rw [i1, e]; exact chkP_y (by omega) (by have h0 : i = 0 := (by omega); subst h0; simp only [prevP]; omega), by rw [e]; omega⟩
     ·have hq5d := of_decide_eq_false hq5
      refine AW.not (i := 10) rfl (by kernel_rfl) (by kernel_rfl) (by kernel_rfl) (Wn.not rfl rfl rfl hq5) rfl ?_
      refine AW.not (i := 11) rfl (by kernel_rfl) (by kernel_rfl) (by kernel_rfl) (Wn.not rfl rfl rfl hq5) rfl ?_
      refine AW.not (i := 12) rfl (by kernel_rfl) (by kernel_rfl) (by kernel_rfl) (Wn.not rfl rfl rfl hq5) rfl ?_
      refine AW.not (i := 13) rfl (by kernel_rfl) (by kernel_rfl) (by kernel_rfl) (Wn.not rfl rfl rfl hq5) rfl ?_
      refine AW.not (i := 14) rfl (by kernel_rfl) (by kernel_rfl) (by kernel_rfl) (Wn.not rfl rfl rfl hq5) rfl ?_
      refine AW.not (i := 15) rfl (by kernel_rfl) (by kernel_rfl) (by kernel_rfl) (Wn.not rfl rfl rfl hq5) rfl ?_
      refine AW.not (i := 16) rfl (by kernel_rfl) (by kernel_rfl) (by kernel_rfl) (Wn.not rfl rfl rfl hq5) rfl ?_
      refine AW.not (i := 17) rfl (by kernel_rfl) (by kernel_rfl) (by kernel_rfl) (Wn.not rfl rfl rfl hq5) rfl ?_
      refine AW.not (i := 18) rfl (by kernel_rfl) (by kernel_rfl) (by kernel_rfl) (Wn.not rfl rfl rfl hq5) rfl ?_
      refine AW.not (i := 19) rfl (by kernel_rfl) (by kernel_rfl) (by kernel_rfl) (Wn.not rfl rfl rfl hq5) rfl ?_
      refine AW.not (i := 20) rfl (by kernel_rfl) (by kernel_rfl) (by kernel_rfl) (Wn.not rfl rfl rfl hq5) rfl ?_
      refine AW.not (i := 21) rfl (by kernel_rfl) (by kernel_rfl) (by kernel_rfl) (Wn.not rfl rfl rfl hq5) rfl ?_
      refine Aq (i := 22) rfl (Wn.run rfl rfl rfl hq4) rfl (fun _ => Yl.pick_false rfl hq5 rfl) ?_
      refine Aq (i := 23) rfl (Wn.plain rfl) rfl (fun _ => Yl.pick_false rfl hq4 rfl) ?_
      refine AW.done (by kernel_rfl) ?_
      refine W.cond_false rfl ?_
      refine W.skip ?_
      refine W.region ?_
      refine Oy rfl (Yl.move rfl) ?_
      refine Oy rfl (Yl.add rfl rfl (by omega)) ?_
      refine Oy rfl (Yl.assign rfl) ?_
      refine OW.nil ?_
      refine ⟨i + 1, _, ?_, (Le.cons rfl (Le.cons rfl (Le.nil _))), rfl, by repeat constructor, by repeat constructor, by first | omega | (dsimp only; omega)⟩
      have e := prevP_at hy
      have hyp : ptB y = true := by first | exact not_f (by assumption) | assumption
      have hyq := ptB_t hyp
      first | exact ⟨by omega, by rw [i1, e]; exact chkP_y (by omega) (by omega), by rw [e]; omega⟩ | exact ⟨by omega, by rw [i1, e]; exact chkP_y (by omega) (by have h0 : i = 0 := (by omega); subst h0; simp only [prevP]; omega), by rw [e]; omega⟩
   ·have hq3d := of_decide_eq_false hq3
    rw [drop_end (by omega)] at i1
    have hv : pointsM l = true := pts_t (by omega) i1
    refine W.exit ?_
    refine Wr ?_
    refine Oy rfl (Yl.assign rfl) ?_
    refine OW.nil ?_
    refine W.ret ?_
    refine Fin.mk (Rsl.one rfl rfl) ⟨?_, rfl⟩ (by repeat constructor) (by repeat constructor)
    first | (rw [hv]; done) | (rw [hv]; rfl) | (rw [pts_n (by omega)]; done) | (rw [pts_f (by rw [i1]; exact chkP_f (by omega))]; done) | (rw [pts_f (by rw [i1]; exact chkP_f (by have := ptB_f (by assumption); omega))]; done) | (rw [pts_f (by rw [i1]; exact chkP_f (by have := ptB_f (not_t (by assumption)); omega))]; done)
theorem c_refEps (e : Int) : FnV Tryz.prog 39 #[.int .i64 e] [] (.bool (epsM e)) := by
 refine FnC.go (m := 9) Tryz.func39 Tryz.ntmps39 rfl (Nat.le_of_ble_eq_true rfl) (fun Lf => ?_)
 refine Wr ?_
 refine Oy rfl (Yl.assign rfl) ?_
 refine OW.nil ?_
 refine Wr ?_
 refine Oy rfl (Yl.move rfl) ?_
 refine Oy rfl (Yl.geq rfl rfl) ?_
 refine Oy rfl (Yl.move rfl) ?_
 refine OW.split (t := 5) rfl (fun hq1 => ?_) (fun hq1 => ?_)
 ·have hq1d := of_decide_eq_true hq1
  refine OW.yl (Wn.run rfl rfl rfl hq1) rfl (Yl.move rfl) ?_
  refine OW.yl (Wn.run rfl rfl rfl hq1) rfl (Yl.leq rfl rfl) ?_
  refine Oy rfl (Yl.pick_true rfl hq1 rfl) ?_
  refine Oy rfl (Yl.assign rfl) ?_
  refine OW.nil ?_
  refine W.ret ?_
  refine Fin.mk (Rsl.one rfl rfl) ⟨?_, rfl⟩ (by repeat constructor) (by repeat constructor)
  refine boolv ?_
  unfold epsM
  first | (refine t_dec ?_; omega) | (refine f_dec ?_; omega) | (refine decide_eq_decide.2 ?_; omega)
 ·have hq1d := of_decide_eq_false hq1
  refine OW.not (Wn.not rfl rfl rfl hq1) rfl ?_
  refine OW.not (Wn.not rfl rfl rfl hq1) rfl ?_
  refine Oy rfl (Yl.pick_false rfl hq1 rfl) ?_
  refine Oy rfl (Yl.assign rfl) ?_
  refine OW.nil ?_
  refine W.ret ?_
  refine Fin.mk (Rsl.one rfl rfl) ⟨?_, rfl⟩ (by repeat constructor) (by repeat constructor)
  refine boolv ?_
  unfold epsM
  first | (refine t_dec ?_; omega) | (refine f_dec ?_; omega) | (refine decide_eq_decide.2 ?_; omega)
theorem c_why (l : List Pt) (a : Option Addr) (c : Nat) (eps : Int) : FnV Tryz.prog 12 #[.slice a l.length c, .int .i64 eps] [rowI 2 encT l a c] (.int .i64 (bothE l eps)) := by
 refine FnC.go (m := 11) Tryz.func12 Tryz.ntmps12 rfl (Nat.le_of_ble_eq_true rfl) (fun Lf => ?_)
 refine Wr ?_
 refine Oy rfl (Yl.assign rfl) ?_
 refine OW.nil ?_
 refine W.seq ?_
 refine Wr ?_
 refine Oy rfl (Yl.move rfl) ?_
 refine OW.callv (Wn.plain rfl) rfl Tryz.call19 rfl (c_refRight _ _ _) (by repeat constructor) ?_
 refine Oy rfl (Yl.not rfl) ?_
 refine OW.nil ?_
 refine W.cond rfl (fun hq1 => ?_) (fun hq1 => ?_)
 ·have hq1n := not_t hq1
  refine Wr ?_
  refine Oy rfl (Yl.assign rfl) ?_
  refine OW.nil ?_
  refine W.ret ?_
  refine Fin.mk (Rsl.one rfl rfl) ⟨?_, rfl⟩ (by repeat constructor) (by repeat constructor)
  unfold bothE
  first | (rw [not_t hq1]; done) | (rw [not_t hq1]; rfl) | (rw [not_f hq1, not_t hq2]; rfl) | (rw [not_f hq1, not_f hq2]; rfl)
 ·have hq1n := not_f hq1
  refine W.skip ?_
  refine W.seq ?_
  refine Wr ?_
  refine Oy rfl (Yl.move rfl) ?_
  refine OW.callv (Wn.plain rfl) rfl Tryz.call39 rfl (c_refEps _) (by repeat constructor) ?_
  refine Oy rfl (Yl.not rfl) ?_
  refine OW.nil ?_
  refine W.cond rfl (fun hq2 => ?_) (fun hq2 => ?_)
  ·have hq2n := not_t hq2
   refine Wr ?_
   refine Oy rfl (Yl.assign rfl) ?_
   refine OW.nil ?_
   refine W.ret ?_
   refine Fin.mk (Rsl.one rfl rfl) ⟨?_, rfl⟩ (by repeat constructor) (by repeat constructor)
   unfold bothE
   first | (rw [not_t hq1]; done) | (rw [not_t hq1]; rfl) | (rw [not_f hq1, not_t hq2]; rfl) | (rw [not_f hq1, not_f hq2]; rfl)
  ·have hq2n := not_f hq2
   refine W.skip ?_
   refine Wr ?_
   refine Oy rfl (Yl.assign rfl) ?_
   refine OW.nil ?_
   refine W.ret ?_
   refine Fin.mk (Rsl.one rfl rfl) ⟨?_, rfl⟩ (by repeat constructor) (by repeat constructor)
   unfold bothE
   first | (rw [not_t hq1]; done) | (rw [not_t hq1]; rfl) | (rw [not_f hq1, not_t hq2]; rfl) | (rw [not_f hq1, not_f hq2]; rfl)
theorem c_refBands (l : List Pt) (a : Option Addr) (c : Nat) (eps : Int) (hl : l.length ≤ 4000) (hok : PtsOk l) (he : 0 ≤ eps ∧ eps ≤ 1099511627776) : FnC Tryz.prog 21 #[.slice a l.length c, .int .i64 eps] [rowI 2 encT l a c] (RetRow 3 encB (l.map (bandP eps))) := by
 refine FnC.go (m := 37) Tryz.func21 Tryz.ntmps21 rfl (Nat.le_of_ble_eq_true rfl) (fun Lf => ?_)
 refine Wr ?_
 refine Oy rfl (Yl.assign rfl) ?_
 refine OW.nil ?_
 refine Wr ?_
 refine Oy rfl (Yl.assign rfl) ?_
 refine OW.nil ?_
 refine W.seq ?_
 refine Wr ?_
 refine Oy rfl (Yl.assign rfl) ?_
 refine OW.nil ?_
 refine W.block ?_
 refine W.ent (Ent.new_arr 42 3) ?_
 refine W.loopS (X := (Nat) × (List Bnd) × (Option Addr) × (Nat)) (fun (x : (Nat) × (List Bnd) × (Option Addr) × (Nat)) => match x with | (i, ys, oa, oc) => (i ≤ l.length ∧ ys = (l.take i).map (bandP eps) : Prop)) (fun (x : (Nat) × (List Bnd) × (Option Addr) × (Nat)) => match x with | (i, ys, oa, oc) => ([(6, .int .i64 (i : Int)), (5, .slice oa ys.length oc)] : Env)) (fun (x : (Nat) × (List Bnd) × (Option Addr) × (Nat)) => match x with | (i, ys, oa, oc) => ([rowR 42 3 encB ys oa oc] : List Res)) (fun (x : (Nat) × (List Bnd) × (Option Addr) × (Nat)) => match x with | (i, ys, oa, oc) => (l.length - i : Nat)) (0, [], none, 0) [(0, _), (1, _), (4, _)] (by exact ⟨Nat.zero_le _, rfl⟩) (Le.cons rfl (Le.cons rfl (Le.cons rfl (Le.cons rfl (Le.cons rfl (Le.nil _)))))) (by repeat constructor) ?_
 rintro ⟨i, ys, oa, oc⟩ hinv
 show W _ _ _ _ _ _ ([(6, .int .i64 (i : Int)), (5, .slice oa ys.length oc)] ++ _) _ ([rowR 42 3 encB ys oa oc] ++ _)
 obtain ⟨i0, i1⟩ := hinv
 refine W.seq ?_
 refine Wr ?_
 refine Oy rfl (Yl.move rfl) ?_
 refine Oy rfl (Yl.move rfl) ?_
 refine Oy rfl (Yl.len ⟨Tryz.underlying22, Tryz.sizeOf34⟩ rfl) ?_
 refine Oy rfl (Yl.lss rfl rfl) ?_
 refine OW.nil ?_
 refine W.cond rfl (fun hq1 => ?_) (fun hq1 => ?_)
 ·have hq1d := of_decide_eq_true hq1
  obtain ⟨y, hy, hdr⟩ := drop_at (l := l) (i := i) (by omega)
  have hyo := hok y (List.mem_of_getElem? hy)
  have hyl : ys.length ≤ 4000 := by rw [i1]; simp; omega
  refine W.skip ?_
  refine W.seq ?_
  refine W.block ?_
  refine W.draw mixed ?_
  refine Aq (i := 0) rfl (Wn.plain rfl) rfl (fun _ => Yl.move rfl) ?_
  refine Aq (i := 1) rfl (Wn.plain rfl) rfl (fun _ => Yl.move rfl) ?_
  refine Aq (i := 2) rfl (Wn.plain rfl) rfl (fun _ => Yl.move rfl) ?_
  refine AW.fact (Sl.isSome (by repeat constructor) (by omega)) ?_
  rintro ⟨p1, hp1⟩; try dsimp only at hp1
  subst hp1
  refine Aq (i := 3) rfl (Wn.plain rfl) rfl (fun _ => Yl.indexS i ⟨Tryz.underlying22, Tryz.sizeOf34⟩ rfl rfl rfl (by omega)) ?_
  refine Aq (i := 4) rfl (Wn.plain rfl) rfl (fun _ => Yl.fieldA (fa_34_0) rfl) ?_
  refine Al (i := 5) rfl (Wn.plain rfl) rfl (by repeat constructor) (Yl.loadS Tryz.isAgg2 rfl .head (map_at hy) (by repeat constructor)) ?_
  refine Aq (i := 6) rfl (Wn.plain rfl) rfl (fun _ => Yl.move rfl) ?_
  refine Aq (i := 7) rfl (Wn.plain rfl) rfl (fun _ => Yl.move rfl) ?_
  refine Aq (i := 8) rfl (Wn.plain rfl) rfl (fun _ => Yl.indexS i ⟨Tryz.underlying22, Tryz.sizeOf34⟩ rfl rfl rfl (by omega)) ?_
  refine Aq (i := 9) rfl (Wn.plain rfl) rfl (fun _ => Yl.fieldA (fa_34_1) rfl) ?_
  refine Al (i := 10) rfl (Wn.plain rfl) rfl (by repeat constructor) (Yl.loadS Tryz.isAgg2 rfl .head (map_at hy) (by repeat constructor)) ?_
  refine Aq (i := 11) rfl (Wn.plain rfl) rfl (fun _ => Yl.move rfl) ?_
  refine Aq (i := 12) rfl (Wn.plain rfl) rfl (fun _ => Yl.sub rfl rfl (by omega)) ?_
  refine Aq (i := 13) rfl (Wn.plain rfl) rfl (fun _ => Yl.move rfl) ?_
  refine Aq (i := 14) rfl (Wn.plain rfl) rfl (fun _ => Yl.move rfl) ?_
  refine Aq (i := 15) rfl (Wn.plain rfl) rfl (fun _ => Yl.indexS i ⟨Tryz.underlying22, Tryz.sizeOf34⟩ rfl rfl rfl (by omega)) ?_
  refine Aq (i := 16) rfl (Wn.plain rfl) rfl (fun _ => Yl.fieldA (fa_34_1) rfl) ?_
  refine Al (i := 17) rfl (Wn.plain rfl) rfl (by repeat constructor) (Yl.loadS Tryz.isAgg2 rfl .head (map_at hy) (by repeat constructor)) ?_
  refine Aq (i := 18) rfl (Wn.plain rfl) rfl (fun _ => Yl.move rfl) ?_
  refine Aq (i := 19) rfl (Wn.plain rfl) rfl (fun _ => Yl.add rfl rfl (by omega)) ?_
  refine Aq (i := 20) rfl (Wn.plain rfl) rfl (fun _ => Yl.build (is := [0, 1, 2]) (xs := [.tmp 18, .tmp 25, .tmp 32]) st_42 rfl rfl (by repeat constructor)) ?_
  refine AW.step (i := 21) rfl (by kernel_rfl) (Wn.plain rfl) rfl (Ex.lit (is := [0]) (xs := [.tmp 33]) rw_38 rfl rfl rfl (by decide) (by repeat constructor)) (.keep (by kernel_rfl) (.keep (by kernel_rfl) (.keep (by kernel_rfl) .nil))) ?_
  rintro _ _ ⟨b1, rfl, rfl⟩; refine ⟨by repeat constructor, ?_⟩
  refine AW.step (i := 22) rfl (by kernel_rfl) (Wn.plain rfl) rfl (Ex.push (f := encB) (y := bandP eps y) rw_38 rfl rfl (by repeat constructor) ⟨_, by repeat constructor⟩ (by rfl) (by rfl) (by repeat constructor) (by omega) (by omega)) (.keep (by kernel_rfl) (.keep (by kernel_rfl) (.keep (by kernel_rfl) .nil))) ?_
  rintro _ _ ⟨a1, c1, rfl, rfl⟩; refine ⟨by repeat constructor, ?_⟩
  refine Aq (i := 23) rfl (Wn.plain rfl) rfl (fun _ => Yl.assign rfl) ?_
  refine AW.done (by kernel_rfl) ?_
  refine W.region ?_
  refine Oy rfl (Yl.move rfl) ?_
  refine Oy rfl (Yl.add rfl rfl (by omega)) ?_
  refine Oy rfl (Yl.assign rfl) ?_
  refine OW.nil ?_
  refine ⟨(i + 1, ys ++ [bandP eps y], _, _), _, ?_, (Le.cons rfl (Le.cons rfl (Le.cons rfl (Le.cons rfl (Le.cons rfl (Le.nil _)))))), rfl, by repeat constructor, by repeat constructor, by first | omega | (dsimp only; omega)⟩
  exact ⟨by omega, by rw [take_at hy, i1]; simp⟩
 ·have hq1d := of_decide_eq_false hq1
  rw [take_end (by omega)] at i1
  subst i1
  refine W.exit ?_
  refine Wr ?_
  refine Oy rfl (Yl.move rfl) ?_
  refine Oy rfl (Yl.assign rfl) ?_
  refine OW.nil ?_
  refine W.ret ?_
  refine Fin.ent (Ent.sealP (f := encB) (E := 42) (sz := 3) (by repeat constructor) (fun _ => rfl)) ?_
  exact Fin.mk (Rsl.one rfl rfl) ⟨_, _, rfl, rfl⟩ (by repeat constructor) (by repeat constructor)
end Go.Yb
