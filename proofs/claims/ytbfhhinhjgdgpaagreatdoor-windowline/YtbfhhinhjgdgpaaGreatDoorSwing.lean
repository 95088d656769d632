/-
  A part of the proof of windowLine_holds: see the text that holds it. No conditions of its own.
-/
import Derived.Test.YtbfhhinhjgdgpaaGreatDoorPmc
import Derived.Test.YtbfhhinhjgdgpaaGreatDoorBits
namespace Go.Yb
open Go Go.Proofs Go.RowKit

/-! swing: lines through a first point -/
structure Door where
  t : Int
  v : Int
  e0 : Slo
  e1 : Slo
  many : Int
  deriving DecidableEq
def encD (d : Door) : List Value := [.int .i64 d.t, .int .i64 d.v, .int .i64 d.e0.N, .int .i64 d.e0.D, .int .i64 d.e1.N, .int .i64 d.e1.D, .int .i64 d.many]
def door0 : Door := ⟨0, 0, ⟨0, 0⟩, ⟨0, 0⟩, 0⟩
def slopeD (d : Door) (b : Bnd) (v : Int) : Slo := if slopeM ⟨v - d.v, b.T - d.t⟩ then lowM ⟨v - d.v, b.T - d.t⟩ else ⟨0, 0⟩
def cmpL (a b : Slo) : Int := if slopeM a && slopeM b then cmpS a b else 0
def takeD (d : Door) (b : Bnd) : Door × Bool :=
  if d.many + 1 = 1 then (⟨b.T, (b.Lo + b.Hi) / 2, d.e0, d.e1, d.many + 1⟩, true) else
    let lo := slopeD d b b.Lo
    let hi := slopeD d b b.Hi
    let e0 := if d.many + 1 = 2 ∨ 0 < cmpL lo d.e0 then lo else d.e0
    let e1 := if d.many + 1 = 2 ∨ cmpL hi d.e1 < 0 then hi else d.e1
    (⟨d.t, d.v, e0, e1, d.many + 1⟩, decide (e0 = e1) || decide (cmpL e0 e1 < 0))
/-- what a door may be -/
def DoorOk (d : Door) : Prop := (0 ≤ d.t ∧ d.t ≤ 281474976710656) ∧ (-2305844108725321728 ≤ d.v ∧ d.v ≤ 2305844108725321728) ∧ 0 ≤ d.many ∧ d.many ≤ 4096
def BndOk (b : Bnd) : Prop := 0 ≤ b.T ∧ b.T ≤ 281474976710656 ∧ b.Lo ≤ b.Hi ∧ (-2305844108725321728 ≤ b.Lo ∧ b.Lo ≤ 2305844108725321728) ∧ (-2305844108725321728 ≤ b.Hi ∧ b.Hi ≤ 2305844108725321728)
theorem takeD_1 {d : Door} {b : Bnd} (h : d.many + 1 = 1) : takeD d b = (⟨b.T, (b.Lo + b.Hi) / 2, d.e0, d.e1, d.many + 1⟩, true) := by simp [takeD, h]
theorem takeD_r {d : Door} {b : Bnd} (e0 e1 : Slo) (h : ¬ d.many + 1 = 1) (h0 : (if d.many + 1 = 2 ∨ 0 < cmpL (slopeD d b b.Lo) d.e0 then slopeD d b b.Lo else d.e0) = e0)
  (h1 : (if d.many + 1 = 2 ∨ cmpL (slopeD d b b.Hi) d.e1 < 0 then slopeD d b b.Hi else d.e1) = e1) :
  takeD d b = (⟨d.t, d.v, e0, e1, d.many + 1⟩, decide (e0 = e1) || decide (cmpL e0 e1 < 0)) := by
 unfold takeD
 rw [if_neg h]
 simp only [h0, h1]
theorem bor_tt {p q : Prop} [Decidable p] [Decidable q] (h : p) : true = (decide p || decide q) := by simp [h]
theorem bor_ff {p q : Prop} [Decidable p] [Decidable q] (h : ¬ p) : decide q = (decide p || decide q) := by simp [h]
theorem door_up {d : Door} (h : DoorOk d) (hm : d.many ≤ 4000) : DoorOk ⟨d.t, d.v, d.e0, d.e1, d.many + 1⟩ := by unfold DoorOk at *; dsimp only; omega
theorem mid_in {b : Bnd} (h : BndOk b) : b.Lo ≤ (b.Lo + b.Hi) / 2 ∧ (b.Lo + b.Hi) / 2 ≤ b.Hi := by unfold BndOk at h; omega
theorem c_sat (b : Bnd) (h : BndOk b) : FnV Tryz.prog 296 #[.agg (encB b).toArray] [] (.agg #[.int .i64 b.T, .int .i64 ((b.Lo + b.Hi) / 2)]) := by
 refine FnC.go (m := 20) Tryz.func296 Tryz.ntmps296 rfl (Nat.le_of_ble_eq_true rfl) (fun Lf => ?_)
 have hm := mid_law b.Lo b.Hi (by unfold BndOk at h; omega) (by unfold BndOk at h; omega) (by unfold BndOk at h; omega) (by unfold BndOk at h; omega)
 have hmi := mid_in h
 unfold BndOk at h
 refine Wr ?_
 refine OW.box (Wn.plain rfl) rfl rfl (by constructor) (fun b1 => ?_)
 refine OW.alloc (Wn.plain rfl) rfl Tryz.zeroValue256 (by constructor) (fun b2 => ?_)
 refine OW.nil ?_
 refine W.seq ?_
 refine W.draw mixed ?_
 refine Aq (i := 0) rfl (Wn.plain rfl) rfl (fun _ => Yl.fieldL 1 (fa_42_1) rfl rfl) ?_
 refine Al (i := 1) rfl (Wn.plain rfl) rfl (by repeat constructor) (Yl.load1 Tryz.isAgg2 rfl .head (by repeat constructor)) ?_
 refine Aq (i := 2) rfl (Wn.plain rfl) rfl (fun _ => Yl.fieldL 2 (fa_42_2) rfl rfl) ?_
 refine Al (i := 3) rfl (Wn.plain rfl) rfl (by repeat constructor) (Yl.load1 Tryz.isAgg2 rfl .head (by repeat constructor)) ?_
 refine Aq (i := 4) rfl (Wn.plain rfl) rfl (fun _ => Yl.assign rfl) ?_
 refine Aq (i := 5) rfl (Wn.plain rfl) rfl (fun _ => Yl.assign rfl) ?_
 refine AW.done (by kernel_rfl) ?_
 refine Wr ?_
 refine Oy rfl (Yl.fieldL 0 (fa_42_0) rfl rfl) ?_
 refine Oy rfl (Yl.load1 Tryz.isAgg2 rfl (by repeat constructor) (by repeat constructor)) ?_
 refine Oy rfl (Yl.move rfl) ?_
 refine Oy rfl (Yl.move rfl) ?_
 refine Oy rfl (Yl.bits (op := .and) rfl rfl rfl rfl) ?_
 refine Oy rfl (Yl.move rfl) ?_
 refine Oy rfl (Yl.move rfl) ?_
 refine Oy rfl (Yl.bits (op := .xor) rfl rfl rfl rfl) ?_
 refine Oy rfl (Yl.shr 1 2 rfl rfl rfl (by decide) (by decide)) ?_
 refine Oy rfl (Yl.add rfl rfl (by omega)) ?_
 refine Oy rfl (Yl.build (is := [0, 1]) (xs := [.tmp 10, .tmp 18]) st_256 rfl rfl (by repeat constructor)) ?_
 refine OW.store (Wn.plain rfl) Tryz.sizeOf256 rfl rfl (by constructor) (by repeat constructor) rfl (by repeat constructor) (by repeat constructor) ?_
 refine OW.nil ?_
 refine W.ret ?_
 refine Fin.mk (Rsl.of1 rfl (.cell ⟨Tryz.isAgg256, Tryz.sizeOf256⟩ rfl (by repeat constructor) (by repeat constructor))) ⟨?_, rfl⟩ (by repeat constructor) (by repeat constructor)
 rw [hm]
theorem c_dslope (p : Nat) (d : Door) (b : Bnd) (v : Int) (hd : DoorOk d) (hb : BndOk b) (h1 : -2305844108725321728 ≤ v) (h2 : v ≤ 2305844108725321728) : FnC Tryz.prog 297 #[.pointer (some ⟨p, 0, none⟩), .agg (encB b).toArray, .int .i64 v] [.cell p (encD d) 259] (fun v' L' => v' = .agg (encS (slopeD d b v)).toArray ∧ L' = [.cell p (encD d) 259]) := by
 refine FnC.go (m := 30) Tryz.func297 Tryz.ntmps297 rfl (Nat.le_of_ble_eq_true rfl) (fun Lf => ?_)
 unfold DoorOk at hd
 unfold BndOk at hb
 refine Wr ?_
 refine OW.box (Wn.plain rfl) rfl rfl (by constructor) (fun b1 => ?_)
 refine OW.alloc (Wn.plain rfl) rfl Tryz.zeroValue146 (by constructor) (fun b2 => ?_)
 refine OW.nil ?_
 refine W.seqS (X := (Nat)) (R0 := []) (fun (b7 : (Nat)) => (True : Prop)) (fun (b7 : (Nat)) => ([(7, .pointer (some ⟨b7, 0, none⟩))] : Env)) (fun (b7 : (Nat)) => ([.cell b7 (encS (slopeD d b v)) 146] : List Res)) [(6, _)] (Le.cons rfl (Le.nil _)) (by repeat constructor) ?_ ?_
 ·refine W.draw mixed ?_
  refine Aq (i := 0) rfl (Wn.plain rfl) rfl (fun _ => Yl.move rfl) ?_
  refine Aq (i := 1) rfl (Wn.plain rfl) rfl (fun _ => Yl.move rfl) ?_
  refine Aq (i := 2) rfl (Wn.plain rfl) rfl (fun _ => Yl.nilCheck rfl) ?_
  refine Aq (i := 3) rfl (Wn.plain rfl) rfl (fun _ => Yl.fieldL 0 (fa_259_0) rfl rfl) ?_
  refine Aq (i := 4) rfl (Wn.plain rfl) rfl (fun _ => Yl.fieldL 1 (fa_256_1) rfl rfl) ?_
  refine Al (i := 5) rfl (Wn.plain rfl) rfl (by repeat constructor) (Yl.load1 Tryz.isAgg2 rfl .head (by repeat constructor)) ?_
  refine Aq (i := 6) rfl (Wn.plain rfl) rfl (fun _ => Yl.sub rfl rfl (by omega)) ?_
  refine Aq (i := 7) rfl (Wn.plain rfl) rfl (fun _ => Yl.fieldL 0 (fa_42_0) rfl rfl) ?_
  refine Al (i := 8) rfl (Wn.plain rfl) rfl (by repeat constructor) (Yl.load1 Tryz.isAgg2 rfl .head (by repeat constructor)) ?_
  refine Aq (i := 9) rfl (Wn.plain rfl) rfl (fun _ => Yl.move rfl) ?_
  refine Aq (i := 10) rfl (Wn.plain rfl) rfl (fun _ => Yl.nilCheck rfl) ?_
  refine Aq (i := 11) rfl (Wn.plain rfl) rfl (fun _ => Yl.fieldL 0 (fa_259_0) rfl rfl) ?_
  refine Aq (i := 12) rfl (Wn.plain rfl) rfl (fun _ => Yl.fieldL 0 (fa_256_0) rfl rfl) ?_
  refine Al (i := 13) rfl (Wn.plain rfl) rfl (by repeat constructor) (Yl.load1 Tryz.isAgg2 rfl .head (by repeat constructor)) ?_
  refine Aq (i := 14) rfl (Wn.plain rfl) rfl (fun _ => Yl.sub rfl rfl (by omega)) ?_
  refine Aq (i := 15) rfl (Wn.plain rfl) rfl (fun _ => Yl.build (is := [0, 1]) (xs := [.tmp 16, .tmp 24]) st_146 rfl rfl (by repeat constructor)) ?_
  refine AW.two 16 20 (by kernel_rfl) ?_ ?_
  ·refine AWi.step (i := 16) rfl (Wn.plain rfl) rfl (Ex.call rfl rfl rfl (FnC.tri0 Tryz.call304 (c_Lowest ⟨v - d.v, b.T - d.t⟩)) (by repeat constructor)) (.keep (by kernel_rfl) (.keep (by kernel_rfl) (.keep (by kernel_rfl) .nil))) ?_
   rintro _ _ ⟨_, ⟨rfl, rfl⟩, rfl⟩; refine ⟨by repeat constructor, ?_⟩
   refine Aq (i := 17) rfl (Wn.plain rfl) rfl (fun _ => Yl.move rfl) ?_
   refine Aq (i := 18) rfl (Wn.plain rfl) rfl (fun _ => Yl.extract rfl (by repeat constructor)) ?_
   refine Aq (i := 19) rfl (Wn.plain rfl) rfl (fun _ => Yl.extract rfl (by repeat constructor)) ?_
   refine AW.step (i := 20) rfl (by kernel_rfl) (Wn.plain rfl) rfl (Ex.alloc Tryz.zeroValue146 (by constructor)) (.keep (by kernel_rfl) (.keep (by kernel_rfl) (.keep (by kernel_rfl) .nil))) ?_
   rintro _ _ ⟨b3, rfl, rfl⟩; refine ⟨by repeat constructor, ?_⟩
   refine AW.step (i := 21) rfl (by kernel_rfl) (Wn.plain rfl) rfl (Ex.store Tryz.sizeOf146 rfl rfl (by constructor) (by repeat constructor) rfl (by repeat constructor) (by repeat constructor)) (.drop (by kernel_rfl) (.drop (by kernel_rfl) (.drop (by kernel_rfl) .nil))) ?_
   rintro _ _ rfl; refine ⟨by repeat constructor, ?_⟩
   refine Aq (i := 22) rfl (Wn.plain rfl) rfl (fun _ => Yl.assign rfl) ?_
   refine AW.done (by kernel_rfl) ?_
   refine ⟨_, _, ?_, (Le.cons rfl (Le.cons rfl (Le.nil _))), rfl, by repeat constructor, by repeat constructor⟩
   trivial
  ·refine AWi.step (i := 20) rfl (Wn.plain rfl) rfl (Ex.alloc Tryz.zeroValue146 (by constructor)) (.keep (by kernel_rfl) (.keep (by kernel_rfl) (.keep (by kernel_rfl) .nil))) ?_
   rintro _ _ ⟨b4, rfl, rfl⟩; refine ⟨by repeat constructor, ?_⟩
   refine AW.step (i := 16) rfl (by kernel_rfl) (Wn.plain rfl) rfl (Ex.call rfl rfl rfl (FnC.tri0 Tryz.call304 (c_Lowest ⟨v - d.v, b.T - d.t⟩)) (by repeat constructor)) (.keep (by kernel_rfl) (.keep (by kernel_rfl) (.keep (by kernel_rfl) .nil))) ?_
   rintro _ _ ⟨_, ⟨rfl, rfl⟩, rfl⟩; refine ⟨by repeat constructor, ?_⟩
   refine Aq (i := 17) rfl (Wn.plain rfl) rfl (fun _ => Yl.move rfl) ?_
   refine Aq (i := 18) rfl (Wn.plain rfl) rfl (fun _ => Yl.extract rfl (by repeat constructor)) ?_
   refine Aq (i := 19) rfl (Wn.plain rfl) rfl (fun _ => Yl.extract rfl (by repeat constructor)) ?_
   refine AW.step (i := 21) rfl (by kernel_rfl) (Wn.plain rfl) rfl (Ex.store Tryz.sizeOf146 rfl rfl (by constructor) (by repeat constructor) rfl (by repeat constructor) (by repeat constructor)) (.drop (by kernel_rfl) (.drop (by kernel_rfl) (.drop (by kernel_rfl) .nil))) ?_
   rintro _ _ rfl; refine ⟨by repeat constructor, ?_⟩
   refine Aq (i := 22) rfl (Wn.plain rfl) rfl (fun _ => Yl.assign rfl) ?_
   refine AW.done (by kernel_rfl) ?_
   refine ⟨_, _, ?_, (Le.cons rfl (Le.cons rfl (Le.nil _))), rfl, by repeat constructor, by repeat constructor⟩
   trivial
 ·rintro b7 hcut
  show W _ _ _ _ _ _ ([(7, .pointer (some ⟨b7, 0, none⟩))] ++ _) _ ([.cell b7 (encS (slopeD d b v)) 146] ++ _)
  refine Wr ?_
  refine Oy rfl (Yl.load ⟨Tryz.isAgg146, Tryz.sizeOf146⟩ rfl (by repeat constructor) (by repeat constructor)) ?_
  refine OW.store (Wn.plain rfl) Tryz.sizeOf146 rfl rfl (by constructor) (by repeat constructor) rfl (by repeat constructor) (by repeat constructor) ?_
  refine OW.nil ?_
  refine W.ret ?_
  refine Fin.mk (Rsl.of1 rfl (.cell ⟨Tryz.isAgg146, Tryz.sizeOf146⟩ rfl (by repeat constructor) (by repeat constructor))) ⟨?_, rfl⟩ (by repeat constructor) (by repeat constructor)
  rfl
theorem c_take (p : Nat) (d : Door) (b : Bnd) (hd : DoorOk d) (hm : d.many ≤ 4000) (hb : BndOk b) : FnC Tryz.prog 282 #[.pointer (some ⟨p, 0, none⟩), .agg (encB b).toArray] [.cell p (encD d) 259] (fun v L' => v = .bool (takeD d b).2 ∧ L' = [.cell p (encD (takeD d b).1) 259]) := by
 refine FnC.go (m := 117) Tryz.func282 Tryz.ntmps282 rfl (Nat.le_of_ble_eq_true rfl) (fun Lf => ?_)
 have hd2 := hd
 unfold DoorOk at hd2
 have hb2 := hb
 unfold BndOk at hb2
 refine Wr ?_
 refine OW.box (Wn.plain rfl) rfl rfl (by constructor) (fun b1 => ?_)
 refine Oy rfl (Yl.assign rfl) ?_
 refine OW.nil ?_
 refine Wr ?_
 refine Oy rfl (Yl.move rfl) ?_
 refine Oy rfl (Yl.nilCheck rfl) ?_
 refine Oy rfl (Yl.fieldL 6 (fa_259_2) rfl rfl) ?_
 refine Oy rfl (Yl.load1 Tryz.isAgg3 rfl (by repeat constructor) (by repeat constructor)) ?_
 refine Oy rfl (Yl.add rfl rfl (by omega)) ?_
 refine Oy rfl (Yl.nilCheck rfl) ?_
 refine Oy rfl (Yl.fieldL 6 (fa_259_2) rfl rfl) ?_
 refine OW.store (Wn.plain rfl) Tryz.sizeOf3 rfl rfl (by constructor) (by repeat constructor) rfl (by repeat constructor) (by repeat constructor) ?_
 refine OW.nil ?_
 refine W.seq ?_
 refine Wr ?_
 refine Oy rfl (Yl.move rfl) ?_
 refine Oy rfl (Yl.nilCheck rfl) ?_
 refine Oy rfl (Yl.fieldL 6 (fa_259_2) rfl rfl) ?_
 refine Oy rfl (Yl.load1 Tryz.isAgg3 rfl (by repeat constructor) (by repeat constructor)) ?_
 refine Oy rfl (Yl.eql rfl rfl) ?_
 refine OW.nil ?_
 refine W.cond rfl (fun hq1 => ?_) (fun hq1 => ?_)
 ·have hq1d := of_decide_eq_true hq1
  refine Wr ?_
  refine Oy rfl (Yl.move rfl) ?_
  refine Oy rfl (Yl.load ⟨Tryz.isAgg42, Tryz.sizeOf42⟩ rfl (by repeat constructor) (by repeat constructor)) ?_
  refine OW.callv (Wn.plain rfl) rfl Tryz.call296 rfl (c_sat b hb) (by repeat constructor) ?_
  refine Oy rfl (Yl.nilCheck rfl) ?_
  refine Oy rfl (Yl.fieldL 0 (fa_259_0) rfl rfl) ?_
  refine OW.store (Wn.plain rfl) Tryz.sizeOf256 rfl rfl (by constructor) (by repeat constructor) rfl (by repeat constructor) (by repeat constructor) ?_
  refine OW.nil ?_
  refine Wr ?_
  refine Oy rfl (Yl.assign rfl) ?_
  refine OW.nil ?_
  refine W.ret ?_
  rw [takeD_1 hq1d]
  exact Fin.mk (Rsl.one rfl rfl) ⟨rfl, rfl⟩ (by repeat constructor) (by repeat constructor)
 ·have hq1d := of_decide_eq_false hq1
  refine W.skip ?_
  refine W.seqS (X := (Nat) × (Nat)) (R0 := [.cell p (encD ⟨d.t, d.v, d.e0, d.e1, d.many + 1⟩) 259]) (fun (x : (Nat) × (Nat)) => match x with | (b4, b5) => (True : Prop)) (fun (x : (Nat) × (Nat)) => match x with | (b4, b5) => ([(5, .pointer (some ⟨b4, 0, none⟩)), (6, .pointer (some ⟨b5, 0, none⟩))] : Env)) (fun (x : (Nat) × (Nat)) => match x with | (b4, b5) => ([.cell b4 (encS (slopeD d b b.Lo)) 146, .cell b5 (encS (slopeD d b b.Hi)) 146, .cell p (encD ⟨d.t, d.v, d.e0, d.e1, d.many + 1⟩) 259] : List Res)) [(0, _), (4, _)] (Le.cons rfl (Le.cons rfl (Le.nil _))) (by repeat constructor) ?_ ?_
  ·refine W.draw mixed ?_
   refine Aq (i := 0) rfl (Wn.plain rfl) rfl (fun _ => Yl.move rfl) ?_
   refine Al (i := 1) rfl (Wn.plain rfl) rfl (by repeat constructor) (Yl.load ⟨Tryz.isAgg42, Tryz.sizeOf42⟩ rfl .head (by repeat constructor)) ?_
   refine Aq (i := 2) rfl (Wn.plain rfl) rfl (fun _ => Yl.fieldL 1 (fa_42_1) rfl rfl) ?_
   refine Al (i := 3) rfl (Wn.plain rfl) rfl (by repeat constructor) (Yl.load1 Tryz.isAgg2 rfl .head (by repeat constructor)) ?_
   refine Aq (i := 5) rfl (Wn.plain rfl) rfl (fun _ => Yl.move rfl) ?_
   refine Al (i := 6) rfl (Wn.plain rfl) rfl (by repeat constructor) (Yl.load ⟨Tryz.isAgg42, Tryz.sizeOf42⟩ rfl .head (by repeat constructor)) ?_
   refine Aq (i := 7) rfl (Wn.plain rfl) rfl (fun _ => Yl.fieldL 2 (fa_42_2) rfl rfl) ?_
   refine Al (i := 8) rfl (Wn.plain rfl) rfl (by repeat constructor) (Yl.load1 Tryz.isAgg2 rfl .head (by repeat constructor)) ?_
   refine AW.three 4 10 11 (by kernel_rfl) ?_ ?_ ?_
   ·refine AWi.step (i := 4) rfl (Wn.plain rfl) rfl (Ex.call rfl rfl rfl (FnC.tri0 Tryz.call297 (c_dslope p ⟨d.t, d.v, d.e0, d.e1, d.many + 1⟩ b b.Lo (door_up hd hm) hb (by omega) (by omega))) (by repeat constructor)) (.keep (by kernel_rfl) (.keep (by kernel_rfl) (.drop (by kernel_rfl) (.drop (by kernel_rfl) .nil)))) ?_
    rintro _ _ ⟨_, ⟨rfl, rfl⟩, rfl⟩; refine ⟨by repeat constructor, ?_⟩
    refine AW.three 9 10 11 (by kernel_rfl) ?_ ?_ ?_
    ·refine AWi.step (i := 9) rfl (Wn.plain rfl) rfl (Ex.call rfl rfl rfl (FnC.tri0 Tryz.call297 (c_dslope p ⟨d.t, d.v, d.e0, d.e1, d.many + 1⟩ b b.Hi (door_up hd hm) hb (by omega) (by omega))) (by repeat constructor)) (.drop (by kernel_rfl) (.drop (by kernel_rfl) .nil)) ?_
     rintro _ _ ⟨_, ⟨rfl, rfl⟩, rfl⟩; refine ⟨by repeat constructor, ?_⟩
     refine AW.two 10 11 (by kernel_rfl) ?_ ?_
     ·refine AWi.step (i := 10) rfl (Wn.plain rfl) rfl (Ex.alloc Tryz.zeroValue146 (by constructor)) .nil ?_
      rintro _ _ ⟨b2, rfl, rfl⟩; refine ⟨by repeat constructor, ?_⟩
      refine AW.step (i := 11) rfl (by kernel_rfl) (Wn.plain rfl) rfl (Ex.alloc Tryz.zeroValue146 (by constructor)) .nil ?_
      rintro _ _ ⟨b3, rfl, rfl⟩; refine ⟨by repeat constructor, ?_⟩
      refine AW.step (i := 12) rfl (by kernel_rfl) (Wn.plain rfl) rfl (Ex.store Tryz.sizeOf146 rfl rfl (by constructor) (by repeat constructor) rfl (by repeat constructor) (by repeat constructor)) .nil ?_
      rintro _ _ rfl; refine ⟨by repeat constructor, ?_⟩
      refine AW.step (i := 13) rfl (by kernel_rfl) (Wn.plain rfl) rfl (Ex.store Tryz.sizeOf146 rfl rfl (by constructor) (by repeat constructor) rfl (by repeat constructor) (by repeat constructor)) .nil ?_
      rintro _ _ rfl; refine ⟨by repeat constructor, ?_⟩
      refine AW.done (by kernel_rfl) ?_
      refine ⟨(_, _), _, ?_, (Le.cons rfl (Le.cons rfl (Le.cons rfl (Le.cons rfl (Le.nil _))))), rfl, by repeat constructor, by repeat constructor⟩
      trivial
     ·refine AWi.step (i := 11) rfl (Wn.plain rfl) rfl (Ex.alloc Tryz.zeroValue146 (by constructor)) .nil ?_
      rintro _ _ ⟨b4, rfl, rfl⟩; refine ⟨by repeat constructor, ?_⟩
      refine AW.step (i := 10) rfl (by kernel_rfl) (Wn.plain rfl) rfl (Ex.alloc Tryz.zeroValue146 (by constructor)) .nil ?_
      rintro _ _ ⟨b5, rfl, rfl⟩; refine ⟨by repeat constructor, ?_⟩
      refine AW.step (i := 12) rfl (by kernel_rfl) (Wn.plain rfl) rfl (Ex.store Tryz.sizeOf146 rfl rfl (by constructor) (by repeat constructor) rfl (by repeat constructor) (by repeat constructor)) .nil ?_
      rintro _ _ rfl; refine ⟨by repeat constructor, ?_⟩
      refine AW.step (i := 13) rfl (by kernel_rfl) (Wn.plain rfl) rfl (Ex.store Tryz.sizeOf146 rfl rfl (by constructor) (by repeat constructor) rfl (by repeat constructor) (by repeat constructor)) .nil ?_
      rintro _ _ rfl; refine ⟨by repeat constructor, ?_⟩
      refine AW.done (by kernel_rfl) ?_
      refine ⟨(_, _), _, ?_, (Le.cons rfl (Le.cons rfl (Le.cons rfl (Le.cons rfl (Le.nil _))))), rfl, by repeat constructor, by repeat constructor⟩
      trivial
    ·refine AWi.step (i := 10) rfl (Wn.plain rfl) rfl (Ex.alloc Tryz.zeroValue146 (by constructor)) (.keep (by kernel_rfl) (.keep (by kernel_rfl) .nil)) ?_
     rintro _ _ ⟨b6, rfl, rfl⟩; refine ⟨by repeat constructor, ?_⟩
     refine AW.two 9 11 (by kernel_rfl) ?_ ?_
     ·refine AWi.step (i := 9) rfl (Wn.plain rfl) rfl (Ex.call rfl rfl rfl (FnC.tri0 Tryz.call297 (c_dslope p ⟨d.t, d.v, d.e0, d.e1, d.many + 1⟩ b b.Hi (door_up hd hm) hb (by omega) (by omega))) (by repeat constructor)) (.drop (by kernel_rfl) (.drop (by kernel_rfl) .nil)) ?_
      rintro _ _ ⟨_, ⟨rfl, rfl⟩, rfl⟩; refine ⟨by repeat constructor, ?_⟩
      refine AW.step (i := 11) rfl (by kernel_rfl) (Wn.plain rfl) rfl (Ex.alloc Tryz.zeroValue146 (by constructor)) .nil ?_
      rintro _ _ ⟨b7, rfl, rfl⟩; refine ⟨by repeat constructor, ?_⟩
      refine AW.step (i := 12) rfl (by kernel_rfl) (Wn.plain rfl) rfl (Ex.store Tryz.sizeOf146 rfl rfl (by constructor) (by repeat constructor) rfl (by repeat constructor) (by repeat constructor)) .nil ?_
      rintro _ _ rfl; refine ⟨by repeat constructor, ?_⟩
      refine AW.step (i := 13) rfl (by kernel_rfl) (Wn.plain rfl) rfl (Ex.store Tryz.sizeOf146 rfl rfl (by constructor) (by repeat constructor) rfl (by repeat constructor) (by repeat constructor)) .nil ?_
      rintro _ _ rfl; refine ⟨by repeat constructor, ?_⟩
      refine AW.done (by kernel_rfl) ?_
      refine ⟨(_, _), _, ?_, (Le.cons rfl (Le.cons rfl (Le.cons rfl (Le.cons rfl (Le.nil _))))), rfl, by repeat constructor, by repeat constructor⟩
      trivial
     ·refine AWi.step (i := 11) rfl (Wn.plain rfl) rfl (Ex.alloc Tryz.zeroValue146 (by constructor)) (.keep (by kernel_rfl) (.keep (by kernel_rfl) .nil)) ?_
      rintro _ _ ⟨b8, rfl, rfl⟩; refine ⟨by repeat constructor, ?_⟩
      refine AW.step (i := 9) rfl (by kernel_rfl) (Wn.plain rfl) rfl (Ex.call rfl rfl rfl (FnC.tri0 Tryz.call297 (c_dslope p ⟨d.t, d.v, d.e0, d.e1, d.many + 1⟩ b b.Hi (door_up hd hm) hb (by omega) (by omega))) (by repeat constructor)) (.drop (by kernel_rfl) (.drop (by kernel_rfl) .nil)) ?_
      rintro _ _ ⟨_, ⟨rfl, rfl⟩, rfl⟩; refine ⟨by repeat constructor, ?_⟩
      refine AW.step (i := 12) rfl (by kernel_rfl) (Wn.plain rfl) rfl (Ex.store Tryz.sizeOf146 rfl rfl (by constructor) (by repeat constructor) rfl (by repeat constructor) (by repeat constructor)) .nil ?_
      rintro _ _ rfl; refine ⟨by repeat constructor, ?_⟩
      refine AW.step (i := 13) rfl (by kernel_rfl) (Wn.plain rfl) rfl (Ex.store Tryz.sizeOf146 rfl rfl (by constructor) (by repeat constructor) rfl (by repeat constructor) (by repeat constructor)) .nil ?_
      rintro _ _ rfl; refine ⟨by repeat constructor, ?_⟩
      refine AW.done (by kernel_rfl) ?_
      refine ⟨(_, _), _, ?_, (Le.cons rfl (Le.cons rfl (Le.cons rfl (Le.cons rfl (Le.nil _))))), rfl, by repeat constructor, by repeat constructor⟩
      trivial
    ·refine AWi.step (i := 11) rfl (Wn.plain rfl) rfl (Ex.alloc Tryz.zeroValue146 (by constructor)) (.keep (by kernel_rfl) (.keep (by kernel_rfl) .nil)) ?_
     rintro _ _ ⟨b9, rfl, rfl⟩; refine ⟨by repeat constructor, ?_⟩
     refine AW.two 9 10 (by kernel_rfl) ?_ ?_
     ·refine AWi.step (i := 9) rfl (Wn.plain rfl) rfl (Ex.call rfl rfl rfl (FnC.tri0 Tryz.call297 (c_dslope p ⟨d.t, d.v, d.e0, d.e1, d.many + 1⟩ b b.Hi (door_up hd hm) hb (by omega) (by omega))) (by repeat constructor)) (.drop (by kernel_rfl) (.drop (by kernel_rfl) .nil)) ?_
      rintro _ _ ⟨_, ⟨rfl, rfl⟩, rfl⟩; refine ⟨by repeat constructor, ?_⟩
      refine AW.step (i := 10) rfl (by kernel_rfl) (Wn.plain rfl) rfl (Ex.alloc Tryz.zeroValue146 (by constructor)) .nil ?_
      rintro _ _ ⟨b10, rfl, rfl⟩; refine ⟨by repeat constructor, ?_⟩
      refine AW.step (i := 12) rfl (by kernel_rfl) (Wn.plain rfl) rfl (Ex.store Tryz.sizeOf146 rfl rfl (by constructor) (by repeat constructor) rfl (by repeat constructor) (by repeat constructor)) .nil ?_
      rintro _ _ rfl; refine ⟨by repeat constructor, ?_⟩
      refine AW.step (i := 13) rfl (by kernel_rfl) (Wn.plain rfl) rfl (Ex.store Tryz.sizeOf146 rfl rfl (by constructor) (by repeat constructor) rfl (by repeat constructor) (by repeat constructor)) .nil ?_
      rintro _ _ rfl; refine ⟨by repeat constructor, ?_⟩
      refine AW.done (by kernel_rfl) ?_
      refine ⟨(_, _), _, ?_, (Le.cons rfl (Le.cons rfl (Le.cons rfl (Le.cons rfl (Le.nil _))))), rfl, by repeat constructor, by repeat constructor⟩
      trivial
     ·refine AWi.step (i := 10) rfl (Wn.plain rfl) rfl (Ex.alloc Tryz.zeroValue146 (by constructor)) (.keep (by kernel_rfl) (.keep (by kernel_rfl) .nil)) ?_
      rintro _ _ ⟨b11, rfl, rfl⟩; refine ⟨by repeat constructor, ?_⟩
      refine AW.step (i := 9) rfl (by kernel_rfl) (Wn.plain rfl) rfl (Ex.call rfl rfl rfl (FnC.tri0 Tryz.call297 (c_dslope p ⟨d.t, d.v, d.e0, d.e1, d.many + 1⟩ b b.Hi (door_up hd hm) hb (by omega) (by omega))) (by repeat constructor)) (.drop (by kernel_rfl) (.drop (by kernel_rfl) .nil)) ?_
      rintro _ _ ⟨_, ⟨rfl, rfl⟩, rfl⟩; refine ⟨by repeat constructor, ?_⟩
      refine AW.step (i := 12) rfl (by kernel_rfl) (Wn.plain rfl) rfl (Ex.store Tryz.sizeOf146 rfl rfl (by constructor) (by repeat constructor) rfl (by repeat constructor) (by repeat constructor)) .nil ?_
      rintro _ _ rfl; refine ⟨by repeat constructor, ?_⟩
      refine AW.step (i := 13) rfl (by kernel_rfl) (Wn.plain rfl) rfl (Ex.store Tryz.sizeOf146 rfl rfl (by constructor) (by repeat constructor) rfl (by repeat constructor) (by repeat constructor)) .nil ?_
      rintro _ _ rfl; refine ⟨by repeat constructor, ?_⟩
      refine AW.done (by kernel_rfl) ?_
      refine ⟨(_, _), _, ?_, (Le.cons rfl (Le.cons rfl (Le.cons rfl (Le.cons rfl (Le.nil _))))), rfl, by repeat constructor, by repeat constructor⟩
      trivial
   ·refine AWi.step (i := 10) rfl (Wn.plain rfl) rfl (Ex.alloc Tryz.zeroValue146 (by constructor)) (.keep (by kernel_rfl) (.keep (by kernel_rfl) (.keep (by kernel_rfl) (.keep (by kernel_rfl) .nil)))) ?_
    rintro _ _ ⟨b12, rfl, rfl⟩; refine ⟨by repeat constructor, ?_⟩
    refine AW.two 4 11 (by kernel_rfl) ?_ ?_
    ·refine AWi.step (i := 4) rfl (Wn.plain rfl) rfl (Ex.call rfl rfl rfl (FnC.tri0 Tryz.call297 (c_dslope p ⟨d.t, d.v, d.e0, d.e1, d.many + 1⟩ b b.Lo (door_up hd hm) hb (by omega) (by omega))) (by repeat constructor)) (.keep (by kernel_rfl) (.keep (by kernel_rfl) (.drop (by kernel_rfl) (.drop (by kernel_rfl) .nil)))) ?_
     rintro _ _ ⟨_, ⟨rfl, rfl⟩, rfl⟩; refine ⟨by repeat constructor, ?_⟩
     refine AW.two 9 11 (by kernel_rfl) ?_ ?_
     ·refine AWi.step (i := 9) rfl (Wn.plain rfl) rfl (Ex.call rfl rfl rfl (FnC.tri0 Tryz.call297 (c_dslope p ⟨d.t, d.v, d.e0, d.e1, d.many + 1⟩ b b.Hi (door_up hd hm) hb (by omega) (by omega))) (by repeat constructor)) (.drop (by kernel_rfl) (.drop (by kernel_rfl) .nil)) ?_
      rintro _ _ ⟨_, ⟨rfl, rfl⟩, rfl⟩; refine ⟨by repeat constructor, ?_⟩
      refine AW.step (i := 11) rfl (by kernel_rfl) (Wn.plain rfl) rfl (Ex.alloc Tryz.zeroValue146 (by constructor)) .nil ?_
      rintro _ _ ⟨b13, rfl, rfl⟩; refine ⟨by repeat constructor, ?_⟩
      refine AW.step (i := 12) rfl (by kernel_rfl) (Wn.plain rfl) rfl (Ex.store Tryz.sizeOf146 rfl rfl (by constructor) (by repeat constructor) rfl (by repeat constructor) (by repeat constructor)) .nil ?_
      rintro _ _ rfl; refine ⟨by repeat constructor, ?_⟩
      refine AW.step (i := 13) rfl (by kernel_rfl) (Wn.plain rfl) rfl (Ex.store Tryz.sizeOf146 rfl rfl (by constructor) (by repeat constructor) rfl (by repeat constructor) (by repeat constructor)) .nil ?_
      rintro _ _ rfl; refine ⟨by repeat constructor, ?_⟩
      refine AW.done (by kernel_rfl) ?_
      refine ⟨(_, _), _, ?_, (Le.cons rfl (Le.cons rfl (Le.cons rfl (Le.cons rfl (Le.nil _))))), rfl, by repeat constructor, by repeat constructor⟩
      trivial
     ·refine AWi.step (i := 11) rfl (Wn.plain rfl) rfl (Ex.alloc Tryz.zeroValue146 (by constructor)) (.keep (by kernel_rfl) (.keep (by kernel_rfl) .nil)) ?_
      rintro _ _ ⟨b14, rfl, rfl⟩; refine ⟨by repeat constructor, ?_⟩
      refine AW.step (i := 9) rfl (by kernel_rfl) (Wn.plain rfl) rfl (Ex.call rfl rfl rfl (FnC.tri0 Tryz.call297 (c_dslope p ⟨d.t, d.v, d.e0, d.e1, d.many + 1⟩ b b.Hi (door_up hd hm) hb (by omega) (by omega))) (by repeat constructor)) (.drop (by kernel_rfl) (.drop (by kernel_rfl) .nil)) ?_
      rintro _ _ ⟨_, ⟨rfl, rfl⟩, rfl⟩; refine ⟨by repeat constructor, ?_⟩
      refine AW.step (i := 12) rfl (by kernel_rfl) (Wn.plain rfl) rfl (Ex.store Tryz.sizeOf146 rfl rfl (by constructor) (by repeat constructor) rfl (by repeat constructor) (by repeat constructor)) .nil ?_
      rintro _ _ rfl; refine ⟨by repeat constructor, ?_⟩
      refine AW.step (i := 13) rfl (by kernel_rfl) (Wn.plain rfl) rfl (Ex.store Tryz.sizeOf146 rfl rfl (by constructor) (by repeat constructor) rfl (by repeat constructor) (by repeat constructor)) .nil ?_
      rintro _ _ rfl; refine ⟨by repeat constructor, ?_⟩
      refine AW.done (by kernel_rfl) ?_
      refine ⟨(_, _), _, ?_, (Le.cons rfl (Le.cons rfl (Le.cons rfl (Le.cons rfl (Le.nil _))))), rfl, by repeat constructor, by repeat constructor⟩
      trivial
    ·refine AWi.step (i := 11) rfl (Wn.plain rfl) rfl (Ex.alloc Tryz.zeroValue146 (by constructor)) (.keep (by kernel_rfl) (.keep (by kernel_rfl) (.keep (by kernel_rfl) (.keep (by kernel_rfl) .nil)))) ?_
     rintro _ _ ⟨b15, rfl, rfl⟩; refine ⟨by repeat constructor, ?_⟩
     refine AW.step (i := 4) rfl (by kernel_rfl) (Wn.plain rfl) rfl (Ex.call rfl rfl rfl (FnC.tri0 Tryz.call297 (c_dslope p ⟨d.t, d.v, d.e0, d.e1, d.many + 1⟩ b b.Lo (door_up hd hm) hb (by omega) (by omega))) (by repeat constructor)) (.keep (by kernel_rfl) (.keep (by kernel_rfl) (.drop (by kernel_rfl) (.drop (by kernel_rfl) .nil)))) ?_
     rintro _ _ ⟨_, ⟨rfl, rfl⟩, rfl⟩; refine ⟨by repeat constructor, ?_⟩
     refine AW.step (i := 9) rfl (by kernel_rfl) (Wn.plain rfl) rfl (Ex.call rfl rfl rfl (FnC.tri0 Tryz.call297 (c_dslope p ⟨d.t, d.v, d.e0, d.e1, d.many + 1⟩ b b.Hi (door_up hd hm) hb (by omega) (by omega))) (by repeat constructor)) (.drop (by kernel_rfl) (.drop (by kernel_rfl) .nil)) ?_
     rintro _ _ ⟨_, ⟨rfl, rfl⟩, rfl⟩; refine ⟨by repeat constructor, ?_⟩
     refine AW.step (i := 12) rfl (by kernel_rfl) (Wn.plain rfl) rfl (Ex.store Tryz.sizeOf146 rfl rfl (by constructor) (by repeat constructor) rfl (by repeat constructor) (by repeat constructor)) .nil ?_
     rintro _ _ rfl; refine ⟨by repeat constructor, ?_⟩
     refine AW.step (i := 13) rfl (by kernel_rfl) (Wn.plain rfl) rfl (Ex.store Tryz.sizeOf146 rfl rfl (by constructor) (by repeat constructor) rfl (by repeat constructor) (by repeat constructor)) .nil ?_
     rintro _ _ rfl; refine ⟨by repeat constructor, ?_⟩
     refine AW.done (by kernel_rfl) ?_
     refine ⟨(_, _), _, ?_, (Le.cons rfl (Le.cons rfl (Le.cons rfl (Le.cons rfl (Le.nil _))))), rfl, by repeat constructor, by repeat constructor⟩
     trivial
   ·refine AWi.step (i := 11) rfl (Wn.plain rfl) rfl (Ex.alloc Tryz.zeroValue146 (by constructor)) (.keep (by kernel_rfl) (.keep (by kernel_rfl) (.keep (by kernel_rfl) (.keep (by kernel_rfl) .nil)))) ?_
    rintro _ _ ⟨b16, rfl, rfl⟩; refine ⟨by repeat constructor, ?_⟩
    refine AW.two 4 10 (by kernel_rfl) ?_ ?_
    ·refine AWi.step (i := 4) rfl (Wn.plain rfl) rfl (Ex.call rfl rfl rfl (FnC.tri0 Tryz.call297 (c_dslope p ⟨d.t, d.v, d.e0, d.e1, d.many + 1⟩ b b.Lo (door_up hd hm) hb (by omega) (by omega))) (by repeat constructor)) (.keep (by kernel_rfl) (.keep (by kernel_rfl) (.drop (by kernel_rfl) (.drop (by kernel_rfl) .nil)))) ?_
     rintro _ _ ⟨_, ⟨rfl, rfl⟩, rfl⟩; refine ⟨by repeat constructor, ?_⟩
     refine AW.two 9 10 (by kernel_rfl) ?_ ?_
     ·refine AWi.step (i := 9) rfl (Wn.plain rfl) rfl (Ex.call rfl rfl rfl (FnC.tri0 Tryz.call297 (c_dslope p ⟨d.t, d.v, d.e0, d.e1, d.many + 1⟩ b b.Hi (door_up hd hm) hb (by omega) (by omega))) (by repeat constructor)) (.drop (by kernel_rfl) (.drop (by kernel_rfl) .nil)) ?_
      rintro _ _ ⟨_, ⟨rfl, rfl⟩, rfl⟩; refine ⟨by repeat constructor, ?_⟩
      refine AW.step (i := 10) rfl (by kernel_rfl) (Wn.plain rfl) rfl (Ex.alloc Tryz.zeroValue146 (by constructor)) .nil ?_
      rintro _ _ ⟨b17, rfl, rfl⟩; refine ⟨by repeat constructor, ?_⟩
      refine AW.step (i := 12) rfl (by kernel_rfl) (Wn.plain rfl) rfl (Ex.store Tryz.sizeOf146 rfl rfl (by constructor) (by repeat constructor) rfl (by repeat constructor) (by repeat constructor)) .nil ?_
      rintro _ _ rfl; refine ⟨by repeat constructor, ?_⟩
      refine AW.step (i := 13) rfl (by kernel_rfl) (Wn.plain rfl) rfl (Ex.store Tryz.sizeOf146 rfl rfl (by constructor) (by repeat constructor) rfl (by repeat constructor) (by repeat constructor)) .nil ?_
      rintro _ _ rfl; refine ⟨by repeat constructor, ?_⟩
      refine AW.done (by kernel_rfl) ?_
      refine ⟨(_, _), _, ?_, (Le.cons rfl (Le.cons rfl (Le.cons rfl (Le.cons rfl (Le.nil _))))), rfl, by repeat constructor, by repeat constructor⟩
      trivial
     ·refine AWi.step (i := 10) rfl (Wn.plain rfl) rfl (Ex.alloc Tryz.zeroValue146 (by constructor)) (.keep (by kernel_rfl) (.keep (by kernel_rfl) .nil)) ?_
      rintro _ _ ⟨b18, rfl, rfl⟩; refine ⟨by repeat constructor, ?_⟩
      refine AW.step (i := 9) rfl (by kernel_rfl) (Wn.plain rfl) rfl (Ex.call rfl rfl rfl (FnC.tri0 Tryz.call297 (c_dslope p ⟨d.t, d.v, d.e0, d.e1, d.many + 1⟩ b b.Hi (door_up hd hm) hb (by omega) (by omega))) (by repeat constructor)) (.drop (by kernel_rfl) (.drop (by kernel_rfl) .nil)) ?_
      rintro _ _ ⟨_, ⟨rfl, rfl⟩, rfl⟩; refine ⟨by repeat constructor, ?_⟩
      refine AW.step (i := 12) rfl (by kernel_rfl) (Wn.plain rfl) rfl (Ex.store Tryz.sizeOf146 rfl rfl (by constructor) (by repeat constructor) rfl (by repeat constructor) (by repeat constructor)) .nil ?_
      rintro _ _ rfl; refine ⟨by repeat constructor, ?_⟩
      refine AW.step (i := 13) rfl (by kernel_rfl) (Wn.plain rfl) rfl (Ex.store Tryz.sizeOf146 rfl rfl (by constructor) (by repeat constructor) rfl (by repeat constructor) (by repeat constructor)) .nil ?_
      rintro _ _ rfl; refine ⟨by repeat constructor, ?_⟩
      refine AW.done (by kernel_rfl) ?_
      refine ⟨(_, _), _, ?_, (Le.cons rfl (Le.cons rfl (Le.cons rfl (Le.cons rfl (Le.nil _))))), rfl, by repeat constructor, by repeat constructor⟩
      trivial
    ·refine AWi.step (i := 10) rfl (Wn.plain rfl) rfl (Ex.alloc Tryz.zeroValue146 (by constructor)) (.keep (by kernel_rfl) (.keep (by kernel_rfl) (.keep (by kernel_rfl) (.keep (by kernel_rfl) .nil)))) ?_
     rintro _ _ ⟨b19, rfl, rfl⟩; refine ⟨by repeat constructor, ?_⟩
     refine AW.step (i := 4) rfl (by kernel_rfl) (Wn.plain rfl) rfl (Ex.call rfl rfl rfl (FnC.tri0 Tryz.call297 (c_dslope p ⟨d.t, d.v, d.e0, d.e1, d.many + 1⟩ b b.Lo (door_up hd hm) hb (by omega) (by omega))) (by repeat constructor)) (.keep (by kernel_rfl) (.keep (by kernel_rfl) (.drop (by kernel_rfl) (.drop (by kernel_rfl) .nil)))) ?_
     rintro _ _ ⟨_, ⟨rfl, rfl⟩, rfl⟩; refine ⟨by repeat constructor, ?_⟩
     refine AW.step (i := 9) rfl (by kernel_rfl) (Wn.plain rfl) rfl (Ex.call rfl rfl rfl (FnC.tri0 Tryz.call297 (c_dslope p ⟨d.t, d.v, d.e0, d.e1, d.many + 1⟩ b b.Hi (door_up hd hm) hb (by omega) (by omega))) (by repeat constructor)) (.drop (by kernel_rfl) (.drop (by kernel_rfl) .nil)) ?_
     rintro _ _ ⟨_, ⟨rfl, rfl⟩, rfl⟩; refine ⟨by repeat constructor, ?_⟩
     refine AW.step (i := 12) rfl (by kernel_rfl) (Wn.plain rfl) rfl (Ex.store Tryz.sizeOf146 rfl rfl (by constructor) (by repeat constructor) rfl (by repeat constructor) (by repeat constructor)) .nil ?_
     rintro _ _ rfl; refine ⟨by repeat constructor, ?_⟩
     refine AW.step (i := 13) rfl (by kernel_rfl) (Wn.plain rfl) rfl (Ex.store Tryz.sizeOf146 rfl rfl (by constructor) (by repeat constructor) rfl (by repeat constructor) (by repeat constructor)) .nil ?_
     rintro _ _ rfl; refine ⟨by repeat constructor, ?_⟩
     refine AW.done (by kernel_rfl) ?_
     refine ⟨(_, _), _, ?_, (Le.cons rfl (Le.cons rfl (Le.cons rfl (Le.cons rfl (Le.nil _))))), rfl, by repeat constructor, by repeat constructor⟩
     trivial
  ·rintro ⟨b4, b5⟩ hcut
   show W _ _ _ _ _ _ ([(5, .pointer (some ⟨b4, 0, none⟩)), (6, .pointer (some ⟨b5, 0, none⟩))] ++ _) _ ([.cell b4 (encS (slopeD d b b.Lo)) 146, .cell b5 (encS (slopeD d b b.Hi)) 146, .cell p (encD ⟨d.t, d.v, d.e0, d.e1, d.many + 1⟩) 259] ++ _)
   refine W.seq ?_
   refine W.seq ?_
   refine W.draw mixed ?_
   refine Al (i := 0) rfl (Wn.plain rfl) rfl (by repeat constructor) (Yl.load ⟨Tryz.isAgg146, Tryz.sizeOf146⟩ rfl .head (by repeat constructor)) ?_
   refine Aq (i := 1) rfl (Wn.plain rfl) rfl (fun _ => Yl.move rfl) ?_
   refine Aq (i := 2) rfl (Wn.plain rfl) rfl (fun _ => Yl.nilCheck rfl) ?_
   refine Aq (i := 3) rfl (Wn.plain rfl) rfl (fun _ => Yl.fieldL 2 (fa_259_1) rfl rfl) ?_
   refine Aq (i := 4) rfl (Wn.plain rfl) rfl (fun _ => Yl.indexA (o' := 2) 0 ⟨Tryz.underlying257, Tryz.sizeOf146⟩ rfl rfl rfl (by decide) rfl) ?_
   refine Al (i := 5) rfl (Wn.plain rfl) rfl (by repeat constructor) (Yl.load ⟨Tryz.isAgg146, Tryz.sizeOf146⟩ rfl .head (by repeat constructor)) ?_
   refine AW.step (i := 6) rfl (by kernel_rfl) (Wn.plain rfl) rfl (Ex.call rfl rfl rfl (FnC.tri0 Tryz.call245 (c_lCompare _ _)) (by repeat constructor)) (.drop (by kernel_rfl) (.drop (by kernel_rfl) .nil)) ?_
   rintro _ _ ⟨_, ⟨rfl, rfl⟩, rfl⟩; refine ⟨by repeat constructor, ?_⟩
   refine Aq (i := 7) rfl (Wn.plain rfl) rfl (fun _ => Yl.move rfl) ?_
   refine Aq (i := 8) rfl (Wn.plain rfl) rfl (fun _ => Yl.extract rfl (by repeat constructor)) ?_
   refine Aq (i := 9) rfl (Wn.plain rfl) rfl (fun _ => Yl.extract rfl (by repeat constructor)) ?_
   refine Aq (i := 10) rfl (Wn.plain rfl) rfl (fun _ => Yl.assign rfl) ?_
   refine Aq (i := 11) rfl (Wn.plain rfl) rfl (fun _ => Yl.assign rfl) ?_
   refine AW.done (by kernel_rfl) ?_
   refine Wr ?_
   refine Oy rfl (Yl.move rfl) ?_
   refine Oy rfl (Yl.nilCheck rfl) ?_
   refine Oy rfl (Yl.fieldL 6 (fa_259_2) rfl rfl) ?_
   refine Oy rfl (Yl.load1 Tryz.isAgg3 rfl (by repeat constructor) (by repeat constructor)) ?_
   refine Oy rfl (Yl.eql rfl rfl) ?_
   refine Oy rfl (Yl.move rfl) ?_
   refine OW.split (t := 55) rfl (fun hq2 => ?_) (fun hq2 => ?_)
   ·have hq2d := of_decide_eq_true hq2
    refine OW.not (Wn.not rfl rfl rfl hq2) rfl ?_
    refine OW.not (Wn.not rfl rfl rfl hq2) rfl ?_
    refine Oy rfl (Yl.pick_true rfl hq2 rfl) ?_
    refine OW.nil ?_
    refine W.cond_true rfl ?_
    refine W.draw mixed ?_
    refine Aq (i := 0) rfl (Wn.plain rfl) rfl (fun _ => Yl.move rfl) ?_
    refine Al (i := 1) rfl (Wn.plain rfl) rfl (by repeat constructor) (Yl.load ⟨Tryz.isAgg146, Tryz.sizeOf146⟩ rfl .head (by repeat constructor)) ?_
    refine Aq (i := 2) rfl (Wn.plain rfl) rfl (fun _ => Yl.nilCheck rfl) ?_
    refine Aq (i := 3) rfl (Wn.plain rfl) rfl (fun _ => Yl.fieldL 2 (fa_259_1) rfl rfl) ?_
    refine Aq (i := 4) rfl (Wn.plain rfl) rfl (fun _ => Yl.indexA (o' := 2) 0 ⟨Tryz.underlying257, Tryz.sizeOf146⟩ rfl rfl rfl (by decide) rfl) ?_
    refine AW.step (i := 5) rfl (by kernel_rfl) (Wn.plain rfl) rfl (Ex.store Tryz.sizeOf146 rfl rfl (by constructor) (by repeat constructor) rfl (by repeat constructor) (by repeat constructor)) (.drop (by kernel_rfl) .nil) ?_
    rintro _ _ rfl; refine ⟨by repeat constructor, ?_⟩
    refine AW.done (by kernel_rfl) ?_
    refine W.seq ?_
    refine W.seq ?_
    refine W.draw mixed ?_
    refine Al (i := 0) rfl (Wn.plain rfl) rfl (by repeat constructor) (Yl.load ⟨Tryz.isAgg146, Tryz.sizeOf146⟩ rfl .head (by repeat constructor)) ?_
    refine Aq (i := 1) rfl (Wn.plain rfl) rfl (fun _ => Yl.move rfl) ?_
    refine Aq (i := 2) rfl (Wn.plain rfl) rfl (fun _ => Yl.nilCheck rfl) ?_
    refine Aq (i := 3) rfl (Wn.plain rfl) rfl (fun _ => Yl.fieldL 2 (fa_259_1) rfl rfl) ?_
    refine Aq (i := 4) rfl (Wn.plain rfl) rfl (fun _ => Yl.indexA (o' := 4) 1 ⟨Tryz.underlying257, Tryz.sizeOf146⟩ rfl rfl rfl (by decide) rfl) ?_
    refine Al (i := 5) rfl (Wn.plain rfl) rfl (by repeat constructor) (Yl.load ⟨Tryz.isAgg146, Tryz.sizeOf146⟩ rfl .head (by repeat constructor)) ?_
    refine AW.step (i := 6) rfl (by kernel_rfl) (Wn.plain rfl) rfl (Ex.call rfl rfl rfl (FnC.tri0 Tryz.call245 (c_lCompare _ _)) (by repeat constructor)) (.drop (by kernel_rfl) (.drop (by kernel_rfl) .nil)) ?_
    rintro _ _ ⟨_, ⟨rfl, rfl⟩, rfl⟩; refine ⟨by repeat constructor, ?_⟩
    refine Aq (i := 7) rfl (Wn.plain rfl) rfl (fun _ => Yl.move rfl) ?_
    refine Aq (i := 8) rfl (Wn.plain rfl) rfl (fun _ => Yl.extract rfl (by repeat constructor)) ?_
    refine Aq (i := 9) rfl (Wn.plain rfl) rfl (fun _ => Yl.extract rfl (by repeat constructor)) ?_
    refine Aq (i := 10) rfl (Wn.plain rfl) rfl (fun _ => Yl.assign rfl) ?_
    refine Aq (i := 11) rfl (Wn.plain rfl) rfl (fun _ => Yl.assign rfl) ?_
    refine AW.done (by kernel_rfl) ?_
    refine Wr ?_
    refine Oy rfl (Yl.move rfl) ?_
    refine Oy rfl (Yl.nilCheck rfl) ?_
    refine Oy rfl (Yl.fieldL 6 (fa_259_2) rfl rfl) ?_
    refine Oy rfl (Yl.load1 Tryz.isAgg3 rfl (by repeat constructor) (by repeat constructor)) ?_
    refine Oy rfl (Yl.eql rfl rfl) ?_
    refine Oy rfl (Yl.move rfl) ?_
    refine OW.split (t := 79) rfl (fun hq3 => ?_) (fun hq3 => ?_)
    ·have hq3d := of_decide_eq_true hq3
     refine OW.not (Wn.not rfl rfl rfl hq3) rfl ?_
     refine OW.not (Wn.not rfl rfl rfl hq3) rfl ?_
     refine Oy rfl (Yl.pick_true rfl hq3 rfl) ?_
     refine OW.nil ?_
     refine W.cond_true rfl ?_
     refine W.draw mixed ?_
     refine Aq (i := 0) rfl (Wn.plain rfl) rfl (fun _ => Yl.move rfl) ?_
     refine Al (i := 1) rfl (Wn.plain rfl) rfl (by repeat constructor) (Yl.load ⟨Tryz.isAgg146, Tryz.sizeOf146⟩ rfl .head (by repeat constructor)) ?_
     refine Aq (i := 2) rfl (Wn.plain rfl) rfl (fun _ => Yl.nilCheck rfl) ?_
     refine Aq (i := 3) rfl (Wn.plain rfl) rfl (fun _ => Yl.fieldL 2 (fa_259_1) rfl rfl) ?_
     refine Aq (i := 4) rfl (Wn.plain rfl) rfl (fun _ => Yl.indexA (o' := 4) 1 ⟨Tryz.underlying257, Tryz.sizeOf146⟩ rfl rfl rfl (by decide) rfl) ?_
     refine AW.step (i := 5) rfl (by kernel_rfl) (Wn.plain rfl) rfl (Ex.store Tryz.sizeOf146 rfl rfl (by constructor) (by repeat constructor) rfl (by repeat constructor) (by repeat constructor)) (.drop (by kernel_rfl) .nil) ?_
     rintro _ _ rfl; refine ⟨by repeat constructor, ?_⟩
     refine AW.done (by kernel_rfl) ?_
     refine W.seq ?_
     refine W.draw mixed ?_
     refine Aq (i := 0) rfl (Wn.plain rfl) rfl (fun _ => Yl.move rfl) ?_
     refine Aq (i := 1) rfl (Wn.plain rfl) rfl (fun _ => Yl.nilCheck rfl) ?_
     refine Aq (i := 2) rfl (Wn.plain rfl) rfl (fun _ => Yl.fieldL 2 (fa_259_1) rfl rfl) ?_
     refine Aq (i := 3) rfl (Wn.plain rfl) rfl (fun _ => Yl.indexA (o' := 2) 0 ⟨Tryz.underlying257, Tryz.sizeOf146⟩ rfl rfl rfl (by decide) rfl) ?_
     refine Al (i := 4) rfl (Wn.plain rfl) rfl (by repeat constructor) (Yl.load ⟨Tryz.isAgg146, Tryz.sizeOf146⟩ rfl .head (by repeat constructor)) ?_
     refine Aq (i := 5) rfl (Wn.plain rfl) rfl (fun _ => Yl.move rfl) ?_
     refine Aq (i := 6) rfl (Wn.plain rfl) rfl (fun _ => Yl.nilCheck rfl) ?_
     refine Aq (i := 7) rfl (Wn.plain rfl) rfl (fun _ => Yl.fieldL 2 (fa_259_1) rfl rfl) ?_
     refine Aq (i := 8) rfl (Wn.plain rfl) rfl (fun _ => Yl.indexA (o' := 4) 1 ⟨Tryz.underlying257, Tryz.sizeOf146⟩ rfl rfl rfl (by decide) rfl) ?_
     refine Al (i := 9) rfl (Wn.plain rfl) rfl (by repeat constructor) (Yl.load ⟨Tryz.isAgg146, Tryz.sizeOf146⟩ rfl .head (by repeat constructor)) ?_
     refine AW.step (i := 10) rfl (by kernel_rfl) (Wn.plain rfl) rfl (Ex.call rfl rfl rfl (FnC.tri0 Tryz.call245 (c_lCompare _ _)) (by repeat constructor)) (.drop (by kernel_rfl) (.drop (by kernel_rfl) .nil)) ?_
     rintro _ _ ⟨_, ⟨rfl, rfl⟩, rfl⟩; refine ⟨by repeat constructor, ?_⟩
     refine Aq (i := 11) rfl (Wn.plain rfl) rfl (fun _ => Yl.move rfl) ?_
     refine Aq (i := 12) rfl (Wn.plain rfl) rfl (fun _ => Yl.extract rfl (by repeat constructor)) ?_
     refine Aq (i := 13) rfl (Wn.plain rfl) rfl (fun _ => Yl.extract rfl (by repeat constructor)) ?_
     refine Aq (i := 14) rfl (Wn.plain rfl) rfl (fun _ => Yl.assign rfl) ?_
     refine Aq (i := 15) rfl (Wn.plain rfl) rfl (fun _ => Yl.assign rfl) ?_
     refine AW.done (by kernel_rfl) ?_
     refine W.seq ?_
     refine W.draw mixed ?_
     refine Aq (i := 0) rfl (Wn.plain rfl) rfl (fun _ => Yl.move rfl) ?_
     refine Aq (i := 1) rfl (Wn.plain rfl) rfl (fun _ => Yl.nilCheck rfl) ?_
     refine Aq (i := 2) rfl (Wn.plain rfl) rfl (fun _ => Yl.fieldL 2 (fa_259_1) rfl rfl) ?_
     refine Aq (i := 3) rfl (Wn.plain rfl) rfl (fun _ => Yl.indexA (o' := 2) 0 ⟨Tryz.underlying257, Tryz.sizeOf146⟩ rfl rfl rfl (by decide) rfl) ?_
     refine Al (i := 4) rfl (Wn.plain rfl) rfl (by repeat constructor) (Yl.load ⟨Tryz.isAgg146, Tryz.sizeOf146⟩ rfl .head (by repeat constructor)) ?_
     refine Aq (i := 5) rfl (Wn.plain rfl) rfl (fun _ => Yl.move rfl) ?_
     refine Aq (i := 6) rfl (Wn.plain rfl) rfl (fun _ => Yl.nilCheck rfl) ?_
     refine Aq (i := 7) rfl (Wn.plain rfl) rfl (fun _ => Yl.fieldL 2 (fa_259_1) rfl rfl) ?_
     refine Aq (i := 8) rfl (Wn.plain rfl) rfl (fun _ => Yl.indexA (o' := 4) 1 ⟨Tryz.underlying257, Tryz.sizeOf146⟩ rfl rfl rfl (by decide) rfl) ?_
     refine Al (i := 9) rfl (Wn.plain rfl) rfl (by repeat constructor) (Yl.load ⟨Tryz.isAgg146, Tryz.sizeOf146⟩ rfl .head (by repeat constructor)) ?_
     refine Aq (i := 10) rfl (Wn.plain rfl) rfl (fun _ => Yl.eqst (eqv_146 _ _) rfl rfl) ?_
     refine Aq (i := 11) rfl (Wn.plain rfl) rfl (fun _ => Yl.move rfl) ?_
     refine AW.split (t := 113) rfl (fun hq4 => ?_) (fun hq4 => ?_)
     ·have hq4d := of_decide_eq_true hq4
      refine AW.not (i := 12) rfl (by kernel_rfl) (by kernel_rfl) (by kernel_rfl) (Wn.not rfl rfl rfl hq4) rfl ?_
      refine AW.not (i := 13) rfl (by kernel_rfl) (by kernel_rfl) (by kernel_rfl) (Wn.not rfl rfl rfl hq4) rfl ?_
      refine Aq (i := 14) rfl (Wn.plain rfl) rfl (fun _ => Yl.pick_true rfl hq4 rfl) ?_
      refine Aq (i := 15) rfl (Wn.plain rfl) rfl (fun _ => Yl.assign rfl) ?_
      refine AW.done (by kernel_rfl) ?_
      refine W.ret ?_
      have k0 : (if d.many + 1 = 2 ∨ 0 < cmpL (slopeD d b b.Lo) d.e0 then slopeD d b b.Lo else d.e0) = slopeD d b b.Lo := by first | exact if_pos (.inl (by assumption)) | exact if_pos (.inr (by assumption)) | exact if_neg (by rintro (hc | hc) <;> first | exact hq2d hc | exact hq3d hc | exact hq4d hc | exact hq5d hc | exact hq6d hc | exact hq7d hc | exact hq8d hc | exact hq9d hc | exact hq10d hc | exact hq11d hc | exact hq12d hc | exact hq13d hc | exact hq14d hc | exact hq15d hc | exact hq16d hc | exact hq17d hc | exact hq18d hc | exact hq19d hc | exact hq20d hc | exact hq21d hc | exact hq22d hc | exact hq23d hc)
      have k1 : (if d.many + 1 = 2 ∨ cmpL (slopeD d b b.Hi) d.e1 < 0 then slopeD d b b.Hi else d.e1) = slopeD d b b.Hi := by first | exact if_pos (.inl (by assumption)) | exact if_pos (.inr (by assumption)) | exact if_neg (by rintro (hc | hc) <;> first | exact hq2d hc | exact hq3d hc | exact hq4d hc | exact hq5d hc | exact hq6d hc | exact hq7d hc | exact hq8d hc | exact hq9d hc | exact hq10d hc | exact hq11d hc | exact hq12d hc | exact hq13d hc | exact hq14d hc | exact hq15d hc | exact hq16d hc | exact hq17d hc | exact hq18d hc | exact hq19d hc | exact hq20d hc | exact hq21d hc | exact hq22d hc | exact hq23d hc)
      rw [takeD_r _ _ hq1d k0 k1]
      refine Fin.mk (Rsl.one rfl rfl) ⟨boolv ?_, rfl⟩ (by repeat constructor) (by repeat constructor)
      first | exact bor_tt (by assumption) | exact bor_ff (by assumption)
     ·have hq4d := of_decide_eq_false hq4
      refine Aq (i := 12) rfl (Wn.run rfl rfl rfl hq4) rfl (fun _ => Yl.move rfl) ?_
      refine Aq (i := 13) rfl (Wn.run rfl rfl rfl hq4) rfl (fun _ => Yl.lss rfl rfl) ?_
      refine Aq (i := 14) rfl (Wn.plain rfl) rfl (fun _ => Yl.pick_false rfl hq4 rfl) ?_
      refine Aq (i := 15) rfl (Wn.plain rfl) rfl (fun _ => Yl.assign rfl) ?_
      refine AW.done (by kernel_rfl) ?_
      refine W.ret ?_
      have k0 : (if d.many + 1 = 2 ∨ 0 < cmpL (slopeD d b b.Lo) d.e0 then slopeD d b b.Lo else d.e0) = slopeD d b b.Lo := by first | exact if_pos (.inl (by assumption)) | exact if_pos (.inr (by assumption)) | exact if_neg (by rintro (hc | hc) <;> first | exact hq2d hc | exact hq3d hc | exact hq4d hc | exact hq5d hc | exact hq6d hc | exact hq7d hc | exact hq8d hc | exact hq9d hc | exact hq10d hc | exact hq11d hc | exact hq12d hc | exact hq13d hc | exact hq14d hc | exact hq15d hc | exact hq16d hc | exact hq17d hc | exact hq18d hc | exact hq19d hc | exact hq20d hc | exact hq21d hc | exact hq22d hc | exact hq23d hc)
      have k1 : (if d.many + 1 = 2 ∨ cmpL (slopeD d b b.Hi) d.e1 < 0 then slopeD d b b.Hi else d.e1) = slopeD d b b.Hi := by first | exact if_pos (.inl (by assumption)) | exact if_pos (.inr (by assumption)) | exact if_neg (by rintro (hc | hc) <;> first | exact hq2d hc | exact hq3d hc | exact hq4d hc | exact hq5d hc | exact hq6d hc | exact hq7d hc | exact hq8d hc | exact hq9d hc | exact hq10d hc | exact hq11d hc | exact hq12d hc | exact hq13d hc | exact hq14d hc | exact hq15d hc | exact hq16d hc | exact hq17d hc | exact hq18d hc | exact hq19d hc | exact hq20d hc | exact hq21d hc | exact hq22d hc | exact hq23d hc)
      rw [takeD_r _ _ hq1d k0 k1]
      refine Fin.mk (Rsl.one rfl rfl) ⟨boolv ?_, rfl⟩ (by repeat constructor) (by repeat constructor)
      first | exact bor_tt (by assumption) | exact bor_ff (by assumption)
    ·have hq3d := of_decide_eq_false hq3
     refine OW.yl (Wn.run rfl rfl rfl hq3) rfl (Yl.move rfl) ?_
     refine OW.yl (Wn.run rfl rfl rfl hq3) rfl (Yl.lss rfl rfl) ?_
     refine Oy rfl (Yl.pick_false rfl hq3 rfl) ?_
     refine OW.nil ?_
     refine W.cond rfl (fun hq5 => ?_) (fun hq5 => ?_)
     ·have hq5d := of_decide_eq_true hq5
      refine W.draw mixed ?_
      refine Aq (i := 0) rfl (Wn.plain rfl) rfl (fun _ => Yl.move rfl) ?_
      refine Al (i := 1) rfl (Wn.plain rfl) rfl (by repeat constructor) (Yl.load ⟨Tryz.isAgg146, Tryz.sizeOf146⟩ rfl .head (by repeat constructor)) ?_
      refine Aq (i := 2) rfl (Wn.plain rfl) rfl (fun _ => Yl.nilCheck rfl) ?_
      refine Aq (i := 3) rfl (Wn.plain rfl) rfl (fun _ => Yl.fieldL 2 (fa_259_1) rfl rfl) ?_
      refine Aq (i := 4) rfl (Wn.plain rfl) rfl (fun _ => Yl.indexA (o' := 4) 1 ⟨Tryz.underlying257, Tryz.sizeOf146⟩ rfl rfl rfl (by decide) rfl) ?_
      refine AW.step (i := 5) rfl (by kernel_rfl) (Wn.plain rfl) rfl (Ex.store Tryz.sizeOf146 rfl rfl (by constructor) (by repeat constructor) rfl (by repeat constructor) (by repeat constructor)) (.drop (by kernel_rfl) .nil) ?_
      rintro _ _ rfl; refine ⟨by repeat constructor, ?_⟩
      refine AW.done (by kernel_rfl) ?_
      refine W.seq ?_
      refine W.draw mixed ?_
      refine Aq (i := 0) rfl (Wn.plain rfl) rfl (fun _ => Yl.move rfl) ?_
      refine Aq (i := 1) rfl (Wn.plain rfl) rfl (fun _ => Yl.nilCheck rfl) ?_
      refine Aq (i := 2) rfl (Wn.plain rfl) rfl (fun _ => Yl.fieldL 2 (fa_259_1) rfl rfl) ?_
      refine Aq (i := 3) rfl (Wn.plain rfl) rfl (fun _ => Yl.indexA (o' := 2) 0 ⟨Tryz.underlying257, Tryz.sizeOf146⟩ rfl rfl rfl (by decide) rfl) ?_
      refine Al (i := 4) rfl (Wn.plain rfl) rfl (by repeat constructor) (Yl.load ⟨Tryz.isAgg146, Tryz.sizeOf146⟩ rfl .head (by repeat constructor)) ?_
      refine Aq (i := 5) rfl (Wn.plain rfl) rfl (fun _ => Yl.move rfl) ?_
      refine Aq (i := 6) rfl (Wn.plain rfl) rfl (fun _ => Yl.nilCheck rfl) ?_
      refine Aq (i := 7) rfl (Wn.plain rfl) rfl (fun _ => Yl.fieldL 2 (fa_259_1) rfl rfl) ?_
      refine Aq (i := 8) rfl (Wn.plain rfl) rfl (fun _ => Yl.indexA (o' := 4) 1 ⟨Tryz.underlying257, Tryz.sizeOf146⟩ rfl rfl rfl (by decide) rfl) ?_
      refine Al (i := 9) rfl (Wn.plain rfl) rfl (by repeat constructor) (Yl.load ⟨Tryz.isAgg146, Tryz.sizeOf146⟩ rfl .head (by repeat constructor)) ?_
      refine AW.step (i := 10) rfl (by kernel_rfl) (Wn.plain rfl) rfl (Ex.call rfl rfl rfl (FnC.tri0 Tryz.call245 (c_lCompare _ _)) (by repeat constructor)) (.drop (by kernel_rfl) (.drop (by kernel_rfl) .nil)) ?_
      rintro _ _ ⟨_, ⟨rfl, rfl⟩, rfl⟩; refine ⟨by repeat constructor, ?_⟩
      refine Aq (i := 11) rfl (Wn.plain rfl) rfl (fun _ => Yl.move rfl) ?_
      refine Aq (i := 12) rfl (Wn.plain rfl) rfl (fun _ => Yl.extract rfl (by repeat constructor)) ?_
      refine Aq (i := 13) rfl (Wn.plain rfl) rfl (fun _ => Yl.extract rfl (by repeat constructor)) ?_
      refine Aq (i := 14) rfl (Wn.plain rfl) rfl (fun _ => Yl.assign rfl) ?_
      refine Aq (i := 15) rfl (Wn.plain rfl) rfl (fun _ => Yl.assign rfl) ?_
      refine AW.done (by kernel_rfl) ?_
      refine W.seq ?_
      refine W.draw mixed ?_
      refine Aq (i := 0) rfl (Wn.plain rfl) rfl (fun _ => Yl.move rfl) ?_
      refine Aq (i := 1) rfl (Wn.plain rfl) rfl (fun _ => Yl.nilCheck rfl) ?_
      refine Aq (i := 2) rfl (Wn.plain rfl) rfl (fun _ => Yl.fieldL 2 (fa_259_1) rfl rfl) ?_
      refine Aq (i := 3) rfl (Wn.plain rfl) rfl (fun _ => Yl.indexA (o' := 2) 0 ⟨Tryz.underlying257, Tryz.sizeOf146⟩ rfl rfl rfl (by decide) rfl) ?_
      refine Al (i := 4) rfl (Wn.plain rfl) rfl (by repeat constructor) (Yl.load ⟨Tryz.isAgg146, Tryz.sizeOf146⟩ rfl .head (by repeat constructor)) ?_
      refine Aq (i := 5) rfl (Wn.plain rfl) rfl (fun _ => Yl.move rfl) ?_
      refine Aq (i := 6) rfl (Wn.plain rfl) rfl (fun _ => Yl.nilCheck rfl) ?_
      refine Aq (i := 7) rfl (Wn.plain rfl) rfl (fun _ => Yl.fieldL 2 (fa_259_1) rfl rfl) ?_
      refine Aq (i := 8) rfl (Wn.plain rfl) rfl (fun _ => Yl.indexA (o' := 4) 1 ⟨Tryz.underlying257, Tryz.sizeOf146⟩ rfl rfl rfl (by decide) rfl) ?_
      refine Al (i := 9) rfl (Wn.plain rfl) rfl (by repeat constructor) (Yl.load ⟨Tryz.isAgg146, Tryz.sizeOf146⟩ rfl .head (by repeat constructor)) ?_
      refine Aq (i := 10) rfl (Wn.plain rfl) rfl (fun _ => Yl.eqst (eqv_146 _ _) rfl rfl) ?_
      refine Aq (i := 11) rfl (Wn.plain rfl) rfl (fun _ => Yl.move rfl) ?_
      refine AW.split (t := 113) rfl (fun hq6 => ?_) (fun hq6 => ?_)
      ·have hq6d := of_decide_eq_true hq6
       refine AW.not (i := 12) rfl (by kernel_rfl) (by kernel_rfl) (by kernel_rfl) (Wn.not rfl rfl rfl hq6) rfl ?_
       refine AW.not (i := 13) rfl (by kernel_rfl) (by kernel_rfl) (by kernel_rfl) (Wn.not rfl rfl rfl hq6) rfl ?_
       refine Aq (i := 14) rfl (Wn.plain rfl) rfl (fun _ => Yl.pick_true rfl hq6 rfl) ?_
       refine Aq (i := 15) rfl (Wn.plain rfl) rfl (fun _ => Yl.assign rfl) ?_
       refine AW.done (by kernel_rfl) ?_
       refine W.ret ?_
       have k0 : (if d.many + 1 = 2 ∨ 0 < cmpL (slopeD d b b.Lo) d.e0 then slopeD d b b.Lo else d.e0) = slopeD d b b.Lo := by first | exact if_pos (.inl (by assumption)) | exact if_pos (.inr (by assumption)) | exact if_neg (by rintro (hc | hc) <;> first | exact hq2d hc | exact hq3d hc | exact hq4d hc | exact hq5d hc | exact hq6d hc | exact hq7d hc | exact hq8d hc | exact hq9d hc | exact hq10d hc | exact hq11d hc | exact hq12d hc | exact hq13d hc | exact hq14d hc | exact hq15d hc | exact hq16d hc | exact hq17d hc | exact hq18d hc | exact hq19d hc | exact hq20d hc | exact hq21d hc | exact hq22d hc | exact hq23d hc)
       have k1 : (if d.many + 1 = 2 ∨ cmpL (slopeD d b b.Hi) d.e1 < 0 then slopeD d b b.Hi else d.e1) = slopeD d b b.Hi := by first | exact if_pos (.inl (by assumption)) | exact if_pos (.inr (by assumption)) | exact if_neg (by rintro (hc | hc) <;> first | exact hq2d hc | exact hq3d hc | exact hq4d hc | exact hq5d hc | exact hq6d hc | exact hq7d hc | exact hq8d hc | exact hq9d hc | exact hq10d hc | exact hq11d hc | exact hq12d hc | exact hq13d hc | exact hq14d hc | exact hq15d hc | exact hq16d hc | exact hq17d hc | exact hq18d hc | exact hq19d hc | exact hq20d hc | exact hq21d hc | exact hq22d hc | exact hq23d hc)
       rw [takeD_r _ _ hq1d k0 k1]
       refine Fin.mk (Rsl.one rfl rfl) ⟨boolv ?_, rfl⟩ (by repeat constructor) (by repeat constructor)
       first | exact bor_tt (by assumption) | exact bor_ff (by assumption)
      ·have hq6d := of_decide_eq_false hq6
       refine Aq (i := 12) rfl (Wn.run rfl rfl rfl hq6) rfl (fun _ => Yl.move rfl) ?_
       refine Aq (i := 13) rfl (Wn.run rfl rfl rfl hq6) rfl (fun _ => Yl.lss rfl rfl) ?_
       refine Aq (i := 14) rfl (Wn.plain rfl) rfl (fun _ => Yl.pick_false rfl hq6 rfl) ?_
       refine Aq (i := 15) rfl (Wn.plain rfl) rfl (fun _ => Yl.assign rfl) ?_
       refine AW.done (by kernel_rfl) ?_
       refine W.ret ?_
       have k0 : (if d.many + 1 = 2 ∨ 0 < cmpL (slopeD d b b.Lo) d.e0 then slopeD d b b.Lo else d.e0) = slopeD d b b.Lo := by first | exact if_pos (.inl (by assumption)) | exact if_pos (.inr (by assumption)) | exact if_neg (by rintro (hc | hc) <;> first | exact hq2d hc | exact hq3d hc | exact hq4d hc | exact hq5d hc | exact hq6d hc | exact hq7d hc | exact hq8d hc | exact hq9d hc | exact hq10d hc | exact hq11d hc | exact hq12d hc | exact hq13d hc | exact hq14d hc | exact hq15d hc | exact hq16d hc | exact hq17d hc | exact hq18d hc | exact hq19d hc | exact hq20d hc | exact hq21d hc | exact hq22d hc | exact hq23d hc)
       have k1 : (if d.many + 1 = 2 ∨ cmpL (slopeD d b b.Hi) d.e1 < 0 then slopeD d b b.Hi else d.e1) = slopeD d b b.Hi := by first | exact if_pos (.inl (by assumption)) | exact if_pos (.inr (by assumption)) | exact if_neg (by rintro (hc | hc) <;> first | exact hq2d hc | exact hq3d hc | exact hq4d hc | exact hq5d hc | exact hq6d hc | exact hq7d hc | exact hq8d hc | exact hq9d hc | exact hq10d hc | exact hq11d hc | exact hq12d hc | exact hq13d hc | exact hq14d hc | exact hq15d hc | exact hq16d hc | exact hq17d hc | exact hq18d hc | exact hq19d hc | exact hq20d hc | exact hq21d hc | exact hq22d hc | exact hq23d hc)
       rw [takeD_r _ _ hq1d k0 k1]
       refine Fin.mk (Rsl.one rfl rfl) ⟨boolv ?_, rfl⟩ (by repeat constructor) (by repeat constructor)
       first | exact bor_tt (by assumption) | exact bor_ff (by assumption)
     ·have hq5d := of_decide_eq_false hq5
      refine W.skip ?_
      refine W.seq ?_
      refine W.draw mixed ?_
      refine Aq (i := 0) rfl (Wn.plain rfl) rfl (fun _ => Yl.move rfl) ?_
      refine Aq (i := 1) rfl (Wn.plain rfl) rfl (fun _ => Yl.nilCheck rfl) ?_
      refine Aq (i := 2) rfl (Wn.plain rfl) rfl (fun _ => Yl.fieldL 2 (fa_259_1) rfl rfl) ?_
      refine Aq (i := 3) rfl (Wn.plain rfl) rfl (fun _ => Yl.indexA (o' := 2) 0 ⟨Tryz.underlying257, Tryz.sizeOf146⟩ rfl rfl rfl (by decide) rfl) ?_
      refine Al (i := 4) rfl (Wn.plain rfl) rfl (by repeat constructor) (Yl.load ⟨Tryz.isAgg146, Tryz.sizeOf146⟩ rfl .head (by repeat constructor)) ?_
      refine Aq (i := 5) rfl (Wn.plain rfl) rfl (fun _ => Yl.move rfl) ?_
      refine Aq (i := 6) rfl (Wn.plain rfl) rfl (fun _ => Yl.nilCheck rfl) ?_
      refine Aq (i := 7) rfl (Wn.plain rfl) rfl (fun _ => Yl.fieldL 2 (fa_259_1) rfl rfl) ?_
      refine Aq (i := 8) rfl (Wn.plain rfl) rfl (fun _ => Yl.indexA (o' := 4) 1 ⟨Tryz.underlying257, Tryz.sizeOf146⟩ rfl rfl rfl (by decide) rfl) ?_
      refine Al (i := 9) rfl (Wn.plain rfl) rfl (by repeat constructor) (Yl.load ⟨Tryz.isAgg146, Tryz.sizeOf146⟩ rfl .head (by repeat constructor)) ?_
      refine AW.step (i := 10) rfl (by kernel_rfl) (Wn.plain rfl) rfl (Ex.call rfl rfl rfl (FnC.tri0 Tryz.call245 (c_lCompare _ _)) (by repeat constructor)) (.drop (by kernel_rfl) (.drop (by kernel_rfl) .nil)) ?_
      rintro _ _ ⟨_, ⟨rfl, rfl⟩, rfl⟩; refine ⟨by repeat constructor, ?_⟩
      refine Aq (i := 11) rfl (Wn.plain rfl) rfl (fun _ => Yl.move rfl) ?_
      refine Aq (i := 12) rfl (Wn.plain rfl) rfl (fun _ => Yl.extract rfl (by repeat constructor)) ?_
      refine Aq (i := 13) rfl (Wn.plain rfl) rfl (fun _ => Yl.extract rfl (by repeat constructor)) ?_
      refine Aq (i := 14) rfl (Wn.plain rfl) rfl (fun _ => Yl.assign rfl) ?_
      refine Aq (i := 15) rfl (Wn.plain rfl) rfl (fun _ => Yl.assign rfl) ?_
      refine AW.done (by kernel_rfl) ?_
      refine W.seq ?_
      refine W.draw mixed ?_
      refine Aq (i := 0) rfl (Wn.plain rfl) rfl (fun _ => Yl.move rfl) ?_
      refine Aq (i := 1) rfl (Wn.plain rfl) rfl (fun _ => Yl.nilCheck rfl) ?_
      refine Aq (i := 2) rfl (Wn.plain rfl) rfl (fun _ => Yl.fieldL 2 (fa_259_1) rfl rfl) ?_
      refine Aq (i := 3) rfl (Wn.plain rfl) rfl (fun _ => Yl.indexA (o' := 2) 0 ⟨Tryz.underlying257, Tryz.sizeOf146⟩ rfl rfl rfl (by decide) rfl) ?_
      refine Al (i := 4) rfl (Wn.plain rfl) rfl (by repeat constructor) (Yl.load ⟨Tryz.isAgg146, Tryz.sizeOf146⟩ rfl .head (by repeat constructor)) ?_
      refine Aq (i := 5) rfl (Wn.plain rfl) rfl (fun _ => Yl.move rfl) ?_
      refine Aq (i := 6) rfl (Wn.plain rfl) rfl (fun _ => Yl.nilCheck rfl) ?_
      refine Aq (i := 7) rfl (Wn.plain rfl) rfl (fun _ => Yl.fieldL 2 (fa_259_1) rfl rfl) ?_
      refine Aq (i := 8) rfl (Wn.plain rfl) rfl (fun _ => Yl.indexA (o' := 4) 1 ⟨Tryz.underlying257, Tryz.sizeOf146⟩ rfl rfl rfl (by decide) rfl) ?_
      refine Al (i := 9) rfl (Wn.plain rfl) rfl (by repeat constructor) (Yl.load ⟨Tryz.isAgg146, Tryz.sizeOf146⟩ rfl .head (by repeat constructor)) ?_
      refine Aq (i := 10) rfl (Wn.plain rfl) rfl (fun _ => Yl.eqst (eqv_146 _ _) rfl rfl) ?_
      refine Aq (i := 11) rfl (Wn.plain rfl) rfl (fun _ => Yl.move rfl) ?_
      refine AW.split (t := 113) rfl (fun hq7 => ?_) (fun hq7 => ?_)
      ·have hq7d := of_decide_eq_true hq7
       refine AW.not (i := 12) rfl (by kernel_rfl) (by kernel_rfl) (by kernel_rfl) (Wn.not rfl rfl rfl hq7) rfl ?_
       refine AW.not (i := 13) rfl (by kernel_rfl) (by kernel_rfl) (by kernel_rfl) (Wn.not rfl rfl rfl hq7) rfl ?_
       refine Aq (i := 14) rfl (Wn.plain rfl) rfl (fun _ => Yl.pick_true rfl hq7 rfl) ?_
       refine Aq (i := 15) rfl (Wn.plain rfl) rfl (fun _ => Yl.assign rfl) ?_
       refine AW.done (by kernel_rfl) ?_
       refine W.ret ?_
       have k0 : (if d.many + 1 = 2 ∨ 0 < cmpL (slopeD d b b.Lo) d.e0 then slopeD d b b.Lo else d.e0) = slopeD d b b.Lo := by first | exact if_pos (.inl (by assumption)) | exact if_pos (.inr (by assumption)) | exact if_neg (by rintro (hc | hc) <;> first | exact hq2d hc | exact hq3d hc | exact hq4d hc | exact hq5d hc | exact hq6d hc | exact hq7d hc | exact hq8d hc | exact hq9d hc | exact hq10d hc | exact hq11d hc | exact hq12d hc | exact hq13d hc | exact hq14d hc | exact hq15d hc | exact hq16d hc | exact hq17d hc | exact hq18d hc | exact hq19d hc | exact hq20d hc | exact hq21d hc | exact hq22d hc | exact hq23d hc)
       have k1 : (if d.many + 1 = 2 ∨ cmpL (slopeD d b b.Hi) d.e1 < 0 then slopeD d b b.Hi else d.e1) = d.e1 := by first | exact if_pos (.inl (by assumption)) | exact if_pos (.inr (by assumption)) | exact if_neg (by rintro (hc | hc) <;> first | exact hq2d hc | exact hq3d hc | exact hq4d hc | exact hq5d hc | exact hq6d hc | exact hq7d hc | exact hq8d hc | exact hq9d hc | exact hq10d hc | exact hq11d hc | exact hq12d hc | exact hq13d hc | exact hq14d hc | exact hq15d hc | exact hq16d hc | exact hq17d hc | exact hq18d hc | exact hq19d hc | exact hq20d hc | exact hq21d hc | exact hq22d hc | exact hq23d hc)
       rw [takeD_r _ _ hq1d k0 k1]
       refine Fin.mk (Rsl.one rfl rfl) ⟨boolv ?_, rfl⟩ (by repeat constructor) (by repeat constructor)
       first | exact bor_tt (by assumption) | exact bor_ff (by assumption)
      ·have hq7d := of_decide_eq_false hq7
       refine Aq (i := 12) rfl (Wn.run rfl rfl rfl hq7) rfl (fun _ => Yl.move rfl) ?_
       refine Aq (i := 13) rfl (Wn.run rfl rfl rfl hq7) rfl (fun _ => Yl.lss rfl rfl) ?_
       refine Aq (i := 14) rfl (Wn.plain rfl) rfl (fun _ => Yl.pick_false rfl hq7 rfl) ?_
       refine Aq (i := 15) rfl (Wn.plain rfl) rfl (fun _ => Yl.assign rfl) ?_
       refine AW.done (by kernel_rfl) ?_
       refine W.ret ?_
       have k0 : (if d.many + 1 = 2 ∨ 0 < cmpL (slopeD d b b.Lo) d.e0 then slopeD d b b.Lo else d.e0) = slopeD d b b.Lo := by first | exact if_pos (.inl (by assumption)) | exact if_pos (.inr (by assumption)) | exact if_neg (by rintro (hc | hc) <;> first | exact hq2d hc | exact hq3d hc | exact hq4d hc | exact hq5d hc | exact hq6d hc | exact hq7d hc | exact hq8d hc | exact hq9d hc | exact hq10d hc | exact hq11d hc | exact hq12d hc | exact hq13d hc | exact hq14d hc | exact hq15d hc | exact hq16d hc | exact hq17d hc | exact hq18d hc | exact hq19d hc | exact hq20d hc | exact hq21d hc | exact hq22d hc | exact hq23d hc)
       have k1 : (if d.many + 1 = 2 ∨ cmpL (slopeD d b b.Hi) d.e1 < 0 then slopeD d b b.Hi else d.e1) = d.e1 := by first | exact if_pos (.inl (by assumption)) | exact if_pos (.inr (by assumption)) | exact if_neg (by rintro (hc | hc) <;> first | exact hq2d hc | exact hq3d hc | exact hq4d hc | exact hq5d hc | exact hq6d hc | exact hq7d hc | exact hq8d hc | exact hq9d hc | exact hq10d hc | exact hq11d hc | exact hq12d hc | exact hq13d hc | exact hq14d hc | exact hq15d hc | exact hq16d hc | exact hq17d hc | exact hq18d hc | exact hq19d hc | exact hq20d hc | exact hq21d hc | exact hq22d hc | exact hq23d hc)
       rw [takeD_r _ _ hq1d k0 k1]
       refine Fin.mk (Rsl.one rfl rfl) ⟨boolv ?_, rfl⟩ (by repeat constructor) (by repeat constructor)
       first | exact bor_tt (by assumption) | exact bor_ff (by assumption)
   ·have hq2d := of_decide_eq_false hq2
    refine OW.yl (Wn.run rfl rfl rfl hq2) rfl (Yl.move rfl) ?_
    refine OW.yl (Wn.run rfl rfl rfl hq2) rfl (Yl.gtr rfl rfl) ?_
    refine Oy rfl (Yl.pick_false rfl hq2 rfl) ?_
    refine OW.nil ?_
    refine W.cond rfl (fun hq8 => ?_) (fun hq8 => ?_)
    ·have hq8d := of_decide_eq_true hq8
     refine W.draw mixed ?_
     refine Aq (i := 0) rfl (Wn.plain rfl) rfl (fun _ => Yl.move rfl) ?_
     refine Al (i := 1) rfl (Wn.plain rfl) rfl (by repeat constructor) (Yl.load ⟨Tryz.isAgg146, Tryz.sizeOf146⟩ rfl .head (by repeat constructor)) ?_
     refine Aq (i := 2) rfl (Wn.plain rfl) rfl (fun _ => Yl.nilCheck rfl) ?_
     refine Aq (i := 3) rfl (Wn.plain rfl) rfl (fun _ => Yl.fieldL 2 (fa_259_1) rfl rfl) ?_
     refine Aq (i := 4) rfl (Wn.plain rfl) rfl (fun _ => Yl.indexA (o' := 2) 0 ⟨Tryz.underlying257, Tryz.sizeOf146⟩ rfl rfl rfl (by decide) rfl) ?_
     refine AW.step (i := 5) rfl (by kernel_rfl) (Wn.plain rfl) rfl (Ex.store Tryz.sizeOf146 rfl rfl (by constructor) (by repeat constructor) rfl (by repeat constructor) (by repeat constructor)) (.drop (by kernel_rfl) .nil) ?_
     rintro _ _ rfl; refine ⟨by repeat constructor, ?_⟩
     refine AW.done (by kernel_rfl) ?_
     refine W.seq ?_
     refine W.seq ?_
     refine W.draw mixed ?_
     refine Al (i := 0) rfl (Wn.plain rfl) rfl (by repeat constructor) (Yl.load ⟨Tryz.isAgg146, Tryz.sizeOf146⟩ rfl .head (by repeat constructor)) ?_
     refine Aq (i := 1) rfl (Wn.plain rfl) rfl (fun _ => Yl.move rfl) ?_
     refine Aq (i := 2) rfl (Wn.plain rfl) rfl (fun _ => Yl.nilCheck rfl) ?_
     refine Aq (i := 3) rfl (Wn.plain rfl) rfl (fun _ => Yl.fieldL 2 (fa_259_1) rfl rfl) ?_
     refine Aq (i := 4) rfl (Wn.plain rfl) rfl (fun _ => Yl.indexA (o' := 4) 1 ⟨Tryz.underlying257, Tryz.sizeOf146⟩ rfl rfl rfl (by decide) rfl) ?_
     refine Al (i := 5) rfl (Wn.plain rfl) rfl (by repeat constructor) (Yl.load ⟨Tryz.isAgg146, Tryz.sizeOf146⟩ rfl .head (by repeat constructor)) ?_
     refine AW.step (i := 6) rfl (by kernel_rfl) (Wn.plain rfl) rfl (Ex.call rfl rfl rfl (FnC.tri0 Tryz.call245 (c_lCompare _ _)) (by repeat constructor)) (.drop (by kernel_rfl) (.drop (by kernel_rfl) .nil)) ?_
     rintro _ _ ⟨_, ⟨rfl, rfl⟩, rfl⟩; refine ⟨by repeat constructor, ?_⟩
     refine Aq (i := 7) rfl (Wn.plain rfl) rfl (fun _ => Yl.move rfl) ?_
     refine Aq (i := 8) rfl (Wn.plain rfl) rfl (fun _ => Yl.extract rfl (by repeat constructor)) ?_
     refine Aq (i := 9) rfl (Wn.plain rfl) rfl (fun _ => Yl.extract rfl (by repeat constructor)) ?_
     refine Aq (i := 10) rfl (Wn.plain rfl) rfl (fun _ => Yl.assign rfl) ?_
     refine Aq (i := 11) rfl (Wn.plain rfl) rfl (fun _ => Yl.assign rfl) ?_
     refine AW.done (by kernel_rfl) ?_
     refine Wr ?_
     refine Oy rfl (Yl.move rfl) ?_
     refine Oy rfl (Yl.nilCheck rfl) ?_
     refine Oy rfl (Yl.fieldL 6 (fa_259_2) rfl rfl) ?_
     refine Oy rfl (Yl.load1 Tryz.isAgg3 rfl (by repeat constructor) (by repeat constructor)) ?_
     refine Oy rfl (Yl.eql rfl rfl) ?_
     refine Oy rfl (Yl.move rfl) ?_
     refine OW.split (t := 79) rfl (fun hq9 => ?_) (fun hq9 => ?_)
     ·have hq9d := of_decide_eq_true hq9
      refine OW.not (Wn.not rfl rfl rfl hq9) rfl ?_
      refine OW.not (Wn.not rfl rfl rfl hq9) rfl ?_
      refine Oy rfl (Yl.pick_true rfl hq9 rfl) ?_
      refine OW.nil ?_
      refine W.cond_true rfl ?_
      refine W.draw mixed ?_
      refine Aq (i := 0) rfl (Wn.plain rfl) rfl (fun _ => Yl.move rfl) ?_
      refine Al (i := 1) rfl (Wn.plain rfl) rfl (by repeat constructor) (Yl.load ⟨Tryz.isAgg146, Tryz.sizeOf146⟩ rfl .head (by repeat constructor)) ?_
      refine Aq (i := 2) rfl (Wn.plain rfl) rfl (fun _ => Yl.nilCheck rfl) ?_
      refine Aq (i := 3) rfl (Wn.plain rfl) rfl (fun _ => Yl.fieldL 2 (fa_259_1) rfl rfl) ?_
      refine Aq (i := 4) rfl (Wn.plain rfl) rfl (fun _ => Yl.indexA (o' := 4) 1 ⟨Tryz.underlying257, Tryz.sizeOf146⟩ rfl rfl rfl (by decide) rfl) ?_
      refine AW.step (i := 5) rfl (by kernel_rfl) (Wn.plain rfl) rfl (Ex.store Tryz.sizeOf146 rfl rfl (by constructor) (by repeat constructor) rfl (by repeat constructor) (by repeat constructor)) (.drop (by kernel_rfl) .nil) ?_
      rintro _ _ rfl; refine ⟨by repeat constructor, ?_⟩
      refine AW.done (by kernel_rfl) ?_
      refine W.seq ?_
      refine W.draw mixed ?_
      refine Aq (i := 0) rfl (Wn.plain rfl) rfl (fun _ => Yl.move rfl) ?_
      refine Aq (i := 1) rfl (Wn.plain rfl) rfl (fun _ => Yl.nilCheck rfl) ?_
      refine Aq (i := 2) rfl (Wn.plain rfl) rfl (fun _ => Yl.fieldL 2 (fa_259_1) rfl rfl) ?_
      refine Aq (i := 3) rfl (Wn.plain rfl) rfl (fun _ => Yl.indexA (o' := 2) 0 ⟨Tryz.underlying257, Tryz.sizeOf146⟩ rfl rfl rfl (by decide) rfl) ?_
      refine Al (i := 4) rfl (Wn.plain rfl) rfl (by repeat constructor) (Yl.load ⟨Tryz.isAgg146, Tryz.sizeOf146⟩ rfl .head (by repeat constructor)) ?_
      refine Aq (i := 5) rfl (Wn.plain rfl) rfl (fun _ => Yl.move rfl) ?_
      refine Aq (i := 6) rfl (Wn.plain rfl) rfl (fun _ => Yl.nilCheck rfl) ?_
      refine Aq (i := 7) rfl (Wn.plain rfl) rfl (fun _ => Yl.fieldL 2 (fa_259_1) rfl rfl) ?_
      refine Aq (i := 8) rfl (Wn.plain rfl) rfl (fun _ => Yl.indexA (o' := 4) 1 ⟨Tryz.underlying257, Tryz.sizeOf146⟩ rfl rfl rfl (by decide) rfl) ?_
      refine Al (i := 9) rfl (Wn.plain rfl) rfl (by repeat constructor) (Yl.load ⟨Tryz.isAgg146, Tryz.sizeOf146⟩ rfl .head (by repeat constructor)) ?_
      refine AW.step (i := 10) rfl (by kernel_rfl) (Wn.plain rfl) rfl (Ex.call rfl rfl rfl (FnC.tri0 Tryz.call245 (c_lCompare _ _)) (by repeat constructor)) (.drop (by kernel_rfl) (.drop (by kernel_rfl) .nil)) ?_
      rintro _ _ ⟨_, ⟨rfl, rfl⟩, rfl⟩; refine ⟨by repeat constructor, ?_⟩
      refine Aq (i := 11) rfl (Wn.plain rfl) rfl (fun _ => Yl.move rfl) ?_
      refine Aq (i := 12) rfl (Wn.plain rfl) rfl (fun _ => Yl.extract rfl (by repeat constructor)) ?_
      refine Aq (i := 13) rfl (Wn.plain rfl) rfl (fun _ => Yl.extract rfl (by repeat constructor)) ?_
      refine Aq (i := 14) rfl (Wn.plain rfl) rfl (fun _ => Yl.assign rfl) ?_
      refine Aq (i := 15) rfl (Wn.plain rfl) rfl (fun _ => Yl.assign rfl) ?_
      refine AW.done (by kernel_rfl) ?_
      refine W.seq ?_
      refine W.draw mixed ?_
      refine Aq (i := 0) rfl (Wn.plain rfl) rfl (fun _ => Yl.move rfl) ?_
      refine Aq (i := 1) rfl (Wn.plain rfl) rfl (fun _ => Yl.nilCheck rfl) ?_
      refine Aq (i := 2) rfl (Wn.plain rfl) rfl (fun _ => Yl.fieldL 2 (fa_259_1) rfl rfl) ?_
      refine Aq (i := 3) rfl (Wn.plain rfl) rfl (fun _ => Yl.indexA (o' := 2) 0 ⟨Tryz.underlying257, Tryz.sizeOf146⟩ rfl rfl rfl (by decide) rfl) ?_
      refine Al (i := 4) rfl (Wn.plain rfl) rfl (by repeat constructor) (Yl.load ⟨Tryz.isAgg146, Tryz.sizeOf146⟩ rfl .head (by repeat constructor)) ?_
      refine Aq (i := 5) rfl (Wn.plain rfl) rfl (fun _ => Yl.move rfl) ?_
      refine Aq (i := 6) rfl (Wn.plain rfl) rfl (fun _ => Yl.nilCheck rfl) ?_
      refine Aq (i := 7) rfl (Wn.plain rfl) rfl (fun _ => Yl.fieldL 2 (fa_259_1) rfl rfl) ?_
      refine Aq (i := 8) rfl (Wn.plain rfl) rfl (fun _ => Yl.indexA (o' := 4) 1 ⟨Tryz.underlying257, Tryz.sizeOf146⟩ rfl rfl rfl (by decide) rfl) ?_
      refine Al (i := 9) rfl (Wn.plain rfl) rfl (by repeat constructor) (Yl.load ⟨Tryz.isAgg146, Tryz.sizeOf146⟩ rfl .head (by repeat constructor)) ?_
      refine Aq (i := 10) rfl (Wn.plain rfl) rfl (fun _ => Yl.eqst (eqv_146 _ _) rfl rfl) ?_
      refine Aq (i := 11) rfl (Wn.plain rfl) rfl (fun _ => Yl.move rfl) ?_
      refine AW.split (t := 113) rfl (fun hq10 => ?_) (fun hq10 => ?_)
      ·have hq10d := of_decide_eq_true hq10
       refine AW.not (i := 12) rfl (by kernel_rfl) (by kernel_rfl) (by kernel_rfl) (Wn.not rfl rfl rfl hq10) rfl ?_
       refine AW.not (i := 13) rfl (by kernel_rfl) (by kernel_rfl) (by kernel_rfl) (Wn.not rfl rfl rfl hq10) rfl ?_
       refine Aq (i := 14) rfl (Wn.plain rfl) rfl (fun _ => Yl.pick_true rfl hq10 rfl) ?_
       refine Aq (i := 15) rfl (Wn.plain rfl) rfl (fun _ => Yl.assign rfl) ?_
       refine AW.done (by kernel_rfl) ?_
       refine W.ret ?_
       have k0 : (if d.many + 1 = 2 ∨ 0 < cmpL (slopeD d b b.Lo) d.e0 then slopeD d b b.Lo else d.e0) = slopeD d b b.Lo := by first | exact if_pos (.inl (by assumption)) | exact if_pos (.inr (by assumption)) | exact if_neg (by rintro (hc | hc) <;> first | exact hq2d hc | exact hq3d hc | exact hq4d hc | exact hq5d hc | exact hq6d hc | exact hq7d hc | exact hq8d hc | exact hq9d hc | exact hq10d hc | exact hq11d hc | exact hq12d hc | exact hq13d hc | exact hq14d hc | exact hq15d hc | exact hq16d hc | exact hq17d hc | exact hq18d hc | exact hq19d hc | exact hq20d hc | exact hq21d hc | exact hq22d hc | exact hq23d hc)
       have k1 : (if d.many + 1 = 2 ∨ cmpL (slopeD d b b.Hi) d.e1 < 0 then slopeD d b b.Hi else d.e1) = slopeD d b b.Hi := by first | exact if_pos (.inl (by assumption)) | exact if_pos (.inr (by assumption)) | exact if_neg (by rintro (hc | hc) <;> first | exact hq2d hc | exact hq3d hc | exact hq4d hc | exact hq5d hc | exact hq6d hc | exact hq7d hc | exact hq8d hc | exact hq9d hc | exact hq10d hc | exact hq11d hc | exact hq12d hc | exact hq13d hc | exact hq14d hc | exact hq15d hc | exact hq16d hc | exact hq17d hc | exact hq18d hc | exact hq19d hc | exact hq20d hc | exact hq21d hc | exact hq22d hc | exact hq23d hc)
       rw [takeD_r _ _ hq1d k0 k1]
       refine Fin.mk (Rsl.one rfl rfl) ⟨boolv ?_, rfl⟩ (by repeat constructor) (by repeat constructor)
       first | exact bor_tt (by assumption) | exact bor_ff (by assumption)
      ·have hq10d := of_decide_eq_false hq10
       refine Aq (i := 12) rfl (Wn.run rfl rfl rfl hq10) rfl (fun _ => Yl.move rfl) ?_
       refine Aq (i := 13) rfl (Wn.run rfl rfl rfl hq10) rfl (fun _ => Yl.lss rfl rfl) ?_
       refine Aq (i := 14) rfl (Wn.plain rfl) rfl (fun _ => Yl.pick_false rfl hq10 rfl) ?_
       refine Aq (i := 15) rfl (Wn.plain rfl) rfl (fun _ => Yl.assign rfl) ?_
       refine AW.done (by kernel_rfl) ?_
       refine W.ret ?_
       have k0 : (if d.many + 1 = 2 ∨ 0 < cmpL (slopeD d b b.Lo) d.e0 then slopeD d b b.Lo else d.e0) = slopeD d b b.Lo := by first | exact if_pos (.inl (by assumption)) | exact if_pos (.inr (by assumption)) | exact if_neg (by rintro (hc | hc) <;> first | exact hq2d hc | exact hq3d hc | exact hq4d hc | exact hq5d hc | exact hq6d hc | exact hq7d hc | exact hq8d hc | exact hq9d hc | exact hq10d hc | exact hq11d hc | exact hq12d hc | exact hq13d hc | exact hq14d hc | exact hq15d hc | exact hq16d hc | exact hq17d hc | exact hq18d hc | exact hq19d hc | exact hq20d hc | exact hq21d hc | exact hq22d hc | exact hq23d hc)
       have k1 : (if d.many + 1 = 2 ∨ cmpL (slopeD d b b.Hi) d.e1 < 0 then slopeD d b b.Hi else d.e1) = slopeD d b b.Hi := by first | exact if_pos (.inl (by assumption)) | exact if_pos (.inr (by assumption)) | exact if_neg (by rintro (hc | hc) <;> first | exact hq2d hc | exact hq3d hc | exact hq4d hc | exact hq5d hc | exact hq6d hc | exact hq7d hc | exact hq8d hc | exact hq9d hc | exact hq10d hc | exact hq11d hc | exact hq12d hc | exact hq13d hc | exact hq14d hc | exact hq15d hc | exact hq16d hc | exact hq17d hc | exact hq18d hc | exact hq19d hc | exact hq20d hc | exact hq21d hc | exact hq22d hc | exact hq23d hc)
       rw [takeD_r _ _ hq1d k0 k1]
       refine Fin.mk (Rsl.one rfl rfl) ⟨boolv ?_, rfl⟩ (by repeat constructor) (by repeat constructor)
       first | exact bor_tt (by assumption) | exact bor_ff (by assumption)
     ·have hq9d := of_decide_eq_false hq9
      refine OW.yl (Wn.run rfl rfl rfl hq9) rfl (Yl.move rfl) ?_
      refine OW.yl (Wn.run rfl rfl rfl hq9) rfl (Yl.lss rfl rfl) ?_
      refine Oy rfl (Yl.pick_false rfl hq9 rfl) ?_
      refine OW.nil ?_
      refine W.cond rfl (fun hq11 => ?_) (fun hq11 => ?_)
      ·have hq11d := of_decide_eq_true hq11
       refine W.draw mixed ?_
       refine Aq (i := 0) rfl (Wn.plain rfl) rfl (fun _ => Yl.move rfl) ?_
       refine Al (i := 1) rfl (Wn.plain rfl) rfl (by repeat constructor) (Yl.load ⟨Tryz.isAgg146, Tryz.sizeOf146⟩ rfl .head (by repeat constructor)) ?_
       refine Aq (i := 2) rfl (Wn.plain rfl) rfl (fun _ => Yl.nilCheck rfl) ?_
       refine Aq (i := 3) rfl (Wn.plain rfl) rfl (fun _ => Yl.fieldL 2 (fa_259_1) rfl rfl) ?_
       refine Aq (i := 4) rfl (Wn.plain rfl) rfl (fun _ => Yl.indexA (o' := 4) 1 ⟨Tryz.underlying257, Tryz.sizeOf146⟩ rfl rfl rfl (by decide) rfl) ?_
       refine AW.step (i := 5) rfl (by kernel_rfl) (Wn.plain rfl) rfl (Ex.store Tryz.sizeOf146 rfl rfl (by constructor) (by repeat constructor) rfl (by repeat constructor) (by repeat constructor)) (.drop (by kernel_rfl) .nil) ?_
       rintro _ _ rfl; refine ⟨by repeat constructor, ?_⟩
       refine AW.done (by kernel_rfl) ?_
       refine W.seq ?_
       refine W.draw mixed ?_
       refine Aq (i := 0) rfl (Wn.plain rfl) rfl (fun _ => Yl.move rfl) ?_
       refine Aq (i := 1) rfl (Wn.plain rfl) rfl (fun _ => Yl.nilCheck rfl) ?_
       refine Aq (i := 2) rfl (Wn.plain rfl) rfl (fun _ => Yl.fieldL 2 (fa_259_1) rfl rfl) ?_
       refine Aq (i := 3) rfl (Wn.plain rfl) rfl (fun _ => Yl.indexA (o' := 2) 0 ⟨Tryz.underlying257, Tryz.sizeOf146⟩ rfl rfl rfl (by decide) rfl) ?_
       refine Al (i := 4) rfl (Wn.plain rfl) rfl (by repeat constructor) (Yl.load ⟨Tryz.isAgg146, Tryz.sizeOf146⟩ rfl .head (by repeat constructor)) ?_
       refine Aq (i := 5) rfl (Wn.plain rfl) rfl (fun _ => Yl.move rfl) ?_
       refine Aq (i := 6) rfl (Wn.plain rfl) rfl (fun _ => Yl.nilCheck rfl) ?_
       refine Aq (i := 7) rfl (Wn.plain rfl) rfl (fun _ => Yl.fieldL 2 (fa_259_1) rfl rfl) ?_
       refine Aq (i := 8) rfl (Wn.plain rfl) rfl (fun _ => Yl.indexA (o' := 4) 1 ⟨Tryz.underlying257, Tryz.sizeOf146⟩ rfl rfl rfl (by decide) rfl) ?_
       refine Al (i := 9) rfl (Wn.plain rfl) rfl (by repeat constructor) (Yl.load ⟨Tryz.isAgg146, Tryz.sizeOf146⟩ rfl .head (by repeat constructor)) ?_
       refine AW.step (i := 10) rfl (by kernel_rfl) (Wn.plain rfl) rfl (Ex.call rfl rfl rfl (FnC.tri0 Tryz.call245 (c_lCompare _ _)) (by repeat constructor)) (.drop (by kernel_rfl) (.drop (by kernel_rfl) .nil)) ?_
       rintro _ _ ⟨_, ⟨rfl, rfl⟩, rfl⟩; refine ⟨by repeat constructor, ?_⟩
       refine Aq (i := 11) rfl (Wn.plain rfl) rfl (fun _ => Yl.move rfl) ?_
       refine Aq (i := 12) rfl (Wn.plain rfl) rfl (fun _ => Yl.extract rfl (by repeat constructor)) ?_
       refine Aq (i := 13) rfl (Wn.plain rfl) rfl (fun _ => Yl.extract rfl (by repeat constructor)) ?_
       refine Aq (i := 14) rfl (Wn.plain rfl) rfl (fun _ => Yl.assign rfl) ?_
       refine Aq (i := 15) rfl (Wn.plain rfl) rfl (fun _ => Yl.assign rfl) ?_
       refine AW.done (by kernel_rfl) ?_
       refine W.seq ?_
       refine W.draw mixed ?_
       refine Aq (i := 0) rfl (Wn.plain rfl) rfl (fun _ => Yl.move rfl) ?_
       refine Aq (i := 1) rfl (Wn.plain rfl) rfl (fun _ => Yl.nilCheck rfl) ?_
       refine Aq (i := 2) rfl (Wn.plain rfl) rfl (fun _ => Yl.fieldL 2 (fa_259_1) rfl rfl) ?_
       refine Aq (i := 3) rfl (Wn.plain rfl) rfl (fun _ => Yl.indexA (o' := 2) 0 ⟨Tryz.underlying257, Tryz.sizeOf146⟩ rfl rfl rfl (by decide) rfl) ?_
       refine Al (i := 4) rfl (Wn.plain rfl) rfl (by repeat constructor) (Yl.load ⟨Tryz.isAgg146, Tryz.sizeOf146⟩ rfl .head (by repeat constructor)) ?_
       refine Aq (i := 5) rfl (Wn.plain rfl) rfl (fun _ => Yl.move rfl) ?_
       refine Aq (i := 6) rfl (Wn.plain rfl) rfl (fun _ => Yl.nilCheck rfl) ?_
       refine Aq (i := 7) rfl (Wn.plain rfl) rfl (fun _ => Yl.fieldL 2 (fa_259_1) rfl rfl) ?_
       refine Aq (i := 8) rfl (Wn.plain rfl) rfl (fun _ => Yl.indexA (o' := 4) 1 ⟨Tryz.underlying257, Tryz.sizeOf146⟩ rfl rfl rfl (by decide) rfl) ?_
       refine Al (i := 9) rfl (Wn.plain rfl) rfl (by repeat constructor) (Yl.load ⟨Tryz.isAgg146, Tryz.sizeOf146⟩ rfl .head (by repeat constructor)) ?_
       refine Aq (i := 10) rfl (Wn.plain rfl) rfl (fun _ => Yl.eqst (eqv_146 _ _) rfl rfl) ?_
       refine Aq (i := 11) rfl (Wn.plain rfl) rfl (fun _ => Yl.move rfl) ?_
       refine AW.split (t := 113) rfl (fun hq12 => ?_) (fun hq12 => ?_)
       ·have hq12d := of_decide_eq_true hq12
        refine AW.not (i := 12) rfl (by kernel_rfl) (by kernel_rfl) (by kernel_rfl) (Wn.not rfl rfl rfl hq12) rfl ?_
        refine AW.not (i := 13) rfl (by kernel_rfl) (by kernel_rfl) (by kernel_rfl) (Wn.not rfl rfl rfl hq12) rfl ?_
        refine Aq (i := 14) rfl (Wn.plain rfl) rfl (fun _ => Yl.pick_true rfl hq12 rfl) ?_
        refine Aq (i := 15) rfl (Wn.plain rfl) rfl (fun _ => Yl.assign rfl) ?_
        refine AW.done (by kernel_rfl) ?_
        refine W.ret ?_
        have k0 : (if d.many + 1 = 2 ∨ 0 < cmpL (slopeD d b b.Lo) d.e0 then slopeD d b b.Lo else d.e0) = slopeD d b b.Lo := by first | exact if_pos (.inl (by assumption)) | exact if_pos (.inr (by assumption)) | exact if_neg (by rintro (hc | hc) <;> first | exact hq2d hc | exact hq3d hc | exact hq4d hc | exact hq5d hc | exact hq6d hc | exact hq7d hc | exact hq8d hc | exact hq9d hc | exact hq10d hc | exact hq11d hc | exact hq12d hc | exact hq13d hc | exact hq14d hc | exact hq15d hc | exact hq16d hc | exact hq17d hc | exact hq18d hc | exact hq19d hc | exact hq20d hc | exact hq21d hc | exact hq22d hc | exact hq23d hc)
        have k1 : (if d.many + 1 = 2 ∨ cmpL (slopeD d b b.Hi) d.e1 < 0 then slopeD d b b.Hi else d.e1) = slopeD d b b.Hi := by first | exact if_pos (.inl (by assumption)) | exact if_pos (.inr (by assumption)) | exact if_neg (by rintro (hc | hc) <;> first | exact hq2d hc | exact hq3d hc | exact hq4d hc | exact hq5d hc | exact hq6d hc | exact hq7d hc | exact hq8d hc | exact hq9d hc | exact hq10d hc | exact hq11d hc | exact hq12d hc | exact hq13d hc | exact hq14d hc | exact hq15d hc | exact hq16d hc | exact hq17d hc | exact hq18d hc | exact hq19d hc | exact hq20d hc | exact hq21d hc | exact hq22d hc | exact hq23d hc)
        rw [takeD_r _ _ hq1d k0 k1]
        refine Fin.mk (Rsl.one rfl rfl) ⟨boolv ?_, rfl⟩ (by repeat constructor) (by repeat constructor)
        first | exact bor_tt (by assumption) | exact bor_ff (by assumption)
       ·have hq12d := of_decide_eq_false hq12
        refine Aq (i := 12) rfl (Wn.run rfl rfl rfl hq12) rfl (fun _ => Yl.move rfl) ?_
        refine Aq (i := 13) rfl (Wn.run rfl rfl rfl hq12) rfl (fun _ => Yl.lss rfl rfl) ?_
        refine Aq (i := 14) rfl (Wn.plain rfl) rfl (fun _ => Yl.pick_false rfl hq12 rfl) ?_
        refine Aq (i := 15) rfl (Wn.plain rfl) rfl (fun _ => Yl.assign rfl) ?_
        refine AW.done (by kernel_rfl) ?_
        refine W.ret ?_
        have k0 : (if d.many + 1 = 2 ∨ 0 < cmpL (slopeD d b b.Lo) d.e0 then slopeD d b b.Lo else d.e0) = slopeD d b b.Lo := by first | exact if_pos (.inl (by assumption)) | exact if_pos (.inr (by assumption)) | exact if_neg (by rintro (hc | hc) <;> first | exact hq2d hc | exact hq3d hc | exact hq4d hc | exact hq5d hc | exact hq6d hc | exact hq7d hc | exact hq8d hc | exact hq9d hc | exact hq10d hc | exact hq11d hc | exact hq12d hc | exact hq13d hc | exact hq14d hc | exact hq15d hc | exact hq16d hc | exact hq17d hc | exact hq18d hc | exact hq19d hc | exact hq20d hc | exact hq21d hc | exact hq22d hc | exact hq23d hc)
        have k1 : (if d.many + 1 = 2 ∨ cmpL (slopeD d b b.Hi) d.e1 < 0 then slopeD d b b.Hi else d.e1) = slopeD d b b.Hi := by first | exact if_pos (.inl (by assumption)) | exact if_pos (.inr (by assumption)) | exact if_neg (by rintro (hc | hc) <;> first | exact hq2d hc | exact hq3d hc | exact hq4d hc | exact hq5d hc | exact hq6d hc | exact hq7d hc | exact hq8d hc | exact hq9d hc | exact hq10d hc | exact hq11d hc | exact hq12d hc | exact hq13d hc | exact hq14d hc | exact hq15d hc | exact hq16d hc | exact hq17d hc | exact hq18d hc | exact hq19d hc | exact hq20d hc | exact hq21d hc | exact hq22d hc | exact hq23d hc)
        rw [takeD_r _ _ hq1d k0 k1]
        refine Fin.mk (Rsl.one rfl rfl) ⟨boolv ?_, rfl⟩ (by repeat constructor) (by repeat constructor)
        first | exact bor_tt (by assumption) | exact bor_ff (by assumption)
      ·have hq11d := of_decide_eq_false hq11
       refine W.skip ?_
       refine W.seq ?_
       refine W.draw mixed ?_
       refine Aq (i := 0) rfl (Wn.plain rfl) rfl (fun _ => Yl.move rfl) ?_
       refine Aq (i := 1) rfl (Wn.plain rfl) rfl (fun _ => Yl.nilCheck rfl) ?_
       refine Aq (i := 2) rfl (Wn.plain rfl) rfl (fun _ => Yl.fieldL 2 (fa_259_1) rfl rfl) ?_
       refine Aq (i := 3) rfl (Wn.plain rfl) rfl (fun _ => Yl.indexA (o' := 2) 0 ⟨Tryz.underlying257, Tryz.sizeOf146⟩ rfl rfl rfl (by decide) rfl) ?_
       refine Al (i := 4) rfl (Wn.plain rfl) rfl (by repeat constructor) (Yl.load ⟨Tryz.isAgg146, Tryz.sizeOf146⟩ rfl .head (by repeat constructor)) ?_
       refine Aq (i := 5) rfl (Wn.plain rfl) rfl (fun _ => Yl.move rfl) ?_
       refine Aq (i := 6) rfl (Wn.plain rfl) rfl (fun _ => Yl.nilCheck rfl) ?_
       refine Aq (i := 7) rfl (Wn.plain rfl) rfl (fun _ => Yl.fieldL 2 (fa_259_1) rfl rfl) ?_
       refine Aq (i := 8) rfl (Wn.plain rfl) rfl (fun _ => Yl.indexA (o' := 4) 1 ⟨Tryz.underlying257, Tryz.sizeOf146⟩ rfl rfl rfl (by decide) rfl) ?_
       refine Al (i := 9) rfl (Wn.plain rfl) rfl (by repeat constructor) (Yl.load ⟨Tryz.isAgg146, Tryz.sizeOf146⟩ rfl .head (by repeat constructor)) ?_
       refine AW.step (i := 10) rfl (by kernel_rfl) (Wn.plain rfl) rfl (Ex.call rfl rfl rfl (FnC.tri0 Tryz.call245 (c_lCompare _ _)) (by repeat constructor)) (.drop (by kernel_rfl) (.drop (by kernel_rfl) .nil)) ?_
       rintro _ _ ⟨_, ⟨rfl, rfl⟩, rfl⟩; refine ⟨by repeat constructor, ?_⟩
       refine Aq (i := 11) rfl (Wn.plain rfl) rfl (fun _ => Yl.move rfl) ?_
       refine Aq (i := 12) rfl (Wn.plain rfl) rfl (fun _ => Yl.extract rfl (by repeat constructor)) ?_
       refine Aq (i := 13) rfl (Wn.plain rfl) rfl (fun _ => Yl.extract rfl (by repeat constructor)) ?_
       refine Aq (i := 14) rfl (Wn.plain rfl) rfl (fun _ => Yl.assign rfl) ?_
       refine Aq (i := 15) rfl (Wn.plain rfl) rfl (fun _ => Yl.assign rfl) ?_
       refine AW.done (by kernel_rfl) ?_
       refine W.seq ?_
       refine W.draw mixed ?_
       refine Aq (i := 0) rfl (Wn.plain rfl) rfl (fun _ => Yl.move rfl) ?_
       refine Aq (i := 1) rfl (Wn.plain rfl) rfl (fun _ => Yl.nilCheck rfl) ?_
       refine Aq (i := 2) rfl (Wn.plain rfl) rfl (fun _ => Yl.fieldL 2 (fa_259_1) rfl rfl) ?_
       refine Aq (i := 3) rfl (Wn.plain rfl) rfl (fun _ => Yl.indexA (o' := 2) 0 ⟨Tryz.underlying257, Tryz.sizeOf146⟩ rfl rfl rfl (by decide) rfl) ?_
       refine Al (i := 4) rfl (Wn.plain rfl) rfl (by repeat constructor) (Yl.load ⟨Tryz.isAgg146, Tryz.sizeOf146⟩ rfl .head (by repeat constructor)) ?_
       refine Aq (i := 5) rfl (Wn.plain rfl) rfl (fun _ => Yl.move rfl) ?_
       refine Aq (i := 6) rfl (Wn.plain rfl) rfl (fun _ => Yl.nilCheck rfl) ?_
       refine Aq (i := 7) rfl (Wn.plain rfl) rfl (fun _ => Yl.fieldL 2 (fa_259_1) rfl rfl) ?_
       refine Aq (i := 8) rfl (Wn.plain rfl) rfl (fun _ => Yl.indexA (o' := 4) 1 ⟨Tryz.underlying257, Tryz.sizeOf146⟩ rfl rfl rfl (by decide) rfl) ?_
       refine Al (i := 9) rfl (Wn.plain rfl) rfl (by repeat constructor) (Yl.load ⟨Tryz.isAgg146, Tryz.sizeOf146⟩ rfl .head (by repeat constructor)) ?_
       refine Aq (i := 10) rfl (Wn.plain rfl) rfl (fun _ => Yl.eqst (eqv_146 _ _) rfl rfl) ?_
       refine Aq (i := 11) rfl (Wn.plain rfl) rfl (fun _ => Yl.move rfl) ?_
       refine AW.split (t := 113) rfl (fun hq13 => ?_) (fun hq13 => ?_)
       ·have hq13d := of_decide_eq_true hq13
        refine AW.not (i := 12) rfl (by kernel_rfl) (by kernel_rfl) (by kernel_rfl) (Wn.not rfl rfl rfl hq13) rfl ?_
        refine AW.not (i := 13) rfl (by kernel_rfl) (by kernel_rfl) (by kernel_rfl) (Wn.not rfl rfl rfl hq13) rfl ?_
        refine Aq (i := 14) rfl (Wn.plain rfl) rfl (fun _ => Yl.pick_true rfl hq13 rfl) ?_
        refine Aq (i := 15) rfl (Wn.plain rfl) rfl (fun _ => Yl.assign rfl) ?_
        refine AW.done (by kernel_rfl) ?_
        refine W.ret ?_
        have k0 : (if d.many + 1 = 2 ∨ 0 < cmpL (slopeD d b b.Lo) d.e0 then slopeD d b b.Lo else d.e0) = slopeD d b b.Lo := by first | exact if_pos (.inl (by assumption)) | exact if_pos (.inr (by assumption)) | exact if_neg (by rintro (hc | hc) <;> first | exact hq2d hc | exact hq3d hc | exact hq4d hc | exact hq5d hc | exact hq6d hc | exact hq7d hc | exact hq8d hc | exact hq9d hc | exact hq10d hc | exact hq11d hc | exact hq12d hc | exact hq13d hc | exact hq14d hc | exact hq15d hc | exact hq16d hc | exact hq17d hc | exact hq18d hc | exact hq19d hc | exact hq20d hc | exact hq21d hc | exact hq22d hc | exact hq23d hc)
        have k1 : (if d.many + 1 = 2 ∨ cmpL (slopeD d b b.Hi) d.e1 < 0 then slopeD d b b.Hi else d.e1) = d.e1 := by first | exact if_pos (.inl (by assumption)) | exact if_pos (.inr (by assumption)) | exact if_neg (by rintro (hc | hc) <;> first | exact hq2d hc | exact hq3d hc | exact hq4d hc | exact hq5d hc | exact hq6d hc | exact hq7d hc | exact hq8d hc | exact hq9d hc | exact hq10d hc | exact hq11d hc | exact hq12d hc | exact hq13d hc | exact hq14d hc | exact hq15d hc | exact hq16d hc | exact hq17d hc | exact hq18d hc | exact hq19d hc | exact hq20d hc | exact hq21d hc | exact hq22d hc | exact hq23d hc)
        rw [takeD_r _ _ hq1d k0 k1]
        refine Fin.mk (Rsl.one rfl rfl) ⟨boolv ?_, rfl⟩ (by repeat constructor) (by repeat constructor)
        first | exact bor_tt (by assumption) | exact bor_ff (by assumption)
       ·have hq13d := of_decide_eq_false hq13
        refine Aq (i := 12) rfl (Wn.run rfl rfl rfl hq13) rfl (fun _ => Yl.move rfl) ?_
        refine Aq (i := 13) rfl (Wn.run rfl rfl rfl hq13) rfl (fun _ => Yl.lss rfl rfl) ?_
        refine Aq (i := 14) rfl (Wn.plain rfl) rfl (fun _ => Yl.pick_false rfl hq13 rfl) ?_
        refine Aq (i := 15) rfl (Wn.plain rfl) rfl (fun _ => Yl.assign rfl) ?_
        refine AW.done (by kernel_rfl) ?_
        refine W.ret ?_
        have k0 : (if d.many + 1 = 2 ∨ 0 < cmpL (slopeD d b b.Lo) d.e0 then slopeD d b b.Lo else d.e0) = slopeD d b b.Lo := by first | exact if_pos (.inl (by assumption)) | exact if_pos (.inr (by assumption)) | exact if_neg (by rintro (hc | hc) <;> first | exact hq2d hc | exact hq3d hc | exact hq4d hc | exact hq5d hc | exact hq6d hc | exact hq7d hc | exact hq8d hc | exact hq9d hc | exact hq10d hc | exact hq11d hc | exact hq12d hc | exact hq13d hc | exact hq14d hc | exact hq15d hc | exact hq16d hc | exact hq17d hc | exact hq18d hc | exact hq19d hc | exact hq20d hc | exact hq21d hc | exact hq22d hc | exact hq23d hc)
        have k1 : (if d.many + 1 = 2 ∨ cmpL (slopeD d b b.Hi) d.e1 < 0 then slopeD d b b.Hi else d.e1) = d.e1 := by first | exact if_pos (.inl (by assumption)) | exact if_pos (.inr (by assumption)) | exact if_neg (by rintro (hc | hc) <;> first | exact hq2d hc | exact hq3d hc | exact hq4d hc | exact hq5d hc | exact hq6d hc | exact hq7d hc | exact hq8d hc | exact hq9d hc | exact hq10d hc | exact hq11d hc | exact hq12d hc | exact hq13d hc | exact hq14d hc | exact hq15d hc | exact hq16d hc | exact hq17d hc | exact hq18d hc | exact hq19d hc | exact hq20d hc | exact hq21d hc | exact hq22d hc | exact hq23d hc)
        rw [takeD_r _ _ hq1d k0 k1]
        refine Fin.mk (Rsl.one rfl rfl) ⟨boolv ?_, rfl⟩ (by repeat constructor) (by repeat constructor)
        first | exact bor_tt (by assumption) | exact bor_ff (by assumption)
    ·have hq8d := of_decide_eq_false hq8
     refine W.skip ?_
     refine W.seq ?_
     refine W.seq ?_
     refine W.draw mixed ?_
     refine Al (i := 0) rfl (Wn.plain rfl) rfl (by repeat constructor) (Yl.load ⟨Tryz.isAgg146, Tryz.sizeOf146⟩ rfl .head (by repeat constructor)) ?_
     refine Aq (i := 1) rfl (Wn.plain rfl) rfl (fun _ => Yl.move rfl) ?_
     refine Aq (i := 2) rfl (Wn.plain rfl) rfl (fun _ => Yl.nilCheck rfl) ?_
     refine Aq (i := 3) rfl (Wn.plain rfl) rfl (fun _ => Yl.fieldL 2 (fa_259_1) rfl rfl) ?_
     refine Aq (i := 4) rfl (Wn.plain rfl) rfl (fun _ => Yl.indexA (o' := 4) 1 ⟨Tryz.underlying257, Tryz.sizeOf146⟩ rfl rfl rfl (by decide) rfl) ?_
     refine Al (i := 5) rfl (Wn.plain rfl) rfl (by repeat constructor) (Yl.load ⟨Tryz.isAgg146, Tryz.sizeOf146⟩ rfl .head (by repeat constructor)) ?_
     refine AW.step (i := 6) rfl (by kernel_rfl) (Wn.plain rfl) rfl (Ex.call rfl rfl rfl (FnC.tri0 Tryz.call245 (c_lCompare _ _)) (by repeat constructor)) (.drop (by kernel_rfl) (.drop (by kernel_rfl) .nil)) ?_
     rintro _ _ ⟨_, ⟨rfl, rfl⟩, rfl⟩; refine ⟨by repeat constructor, ?_⟩
     refine Aq (i := 7) rfl (Wn.plain rfl) rfl (fun _ => Yl.move rfl) ?_
     refine Aq (i := 8) rfl (Wn.plain rfl) rfl (fun _ => Yl.extract rfl (by repeat constructor)) ?_
     refine Aq (i := 9) rfl (Wn.plain rfl) rfl (fun _ => Yl.extract rfl (by repeat constructor)) ?_
     refine Aq (i := 10) rfl (Wn.plain rfl) rfl (fun _ => Yl.assign rfl) ?_
     refine Aq (i := 11) rfl (Wn.plain rfl) rfl (fun _ => Yl.assign rfl) ?_
     refine AW.done (by kernel_rfl) ?_
     refine Wr ?_
     refine Oy rfl (Yl.move rfl) ?_
     refine Oy rfl (Yl.nilCheck rfl) ?_
     refine Oy rfl (Yl.fieldL 6 (fa_259_2) rfl rfl) ?_
     refine Oy rfl (Yl.load1 Tryz.isAgg3 rfl (by repeat constructor) (by repeat constructor)) ?_
     refine Oy rfl (Yl.eql rfl rfl) ?_
     refine Oy rfl (Yl.move rfl) ?_
     refine OW.split (t := 79) rfl (fun hq14 => ?_) (fun hq14 => ?_)
     ·have hq14d := of_decide_eq_true hq14
      refine OW.not (Wn.not rfl rfl rfl hq14) rfl ?_
      refine OW.not (Wn.not rfl rfl rfl hq14) rfl ?_
      refine Oy rfl (Yl.pick_true rfl hq14 rfl) ?_
      refine OW.nil ?_
      refine W.cond_true rfl ?_
      refine W.draw mixed ?_
      refine Aq (i := 0) rfl (Wn.plain rfl) rfl (fun _ => Yl.move rfl) ?_
      refine Al (i := 1) rfl (Wn.plain rfl) rfl (by repeat constructor) (Yl.load ⟨Tryz.isAgg146, Tryz.sizeOf146⟩ rfl .head (by repeat constructor)) ?_
      refine Aq (i := 2) rfl (Wn.plain rfl) rfl (fun _ => Yl.nilCheck rfl) ?_
      refine Aq (i := 3) rfl (Wn.plain rfl) rfl (fun _ => Yl.fieldL 2 (fa_259_1) rfl rfl) ?_
      refine Aq (i := 4) rfl (Wn.plain rfl) rfl (fun _ => Yl.indexA (o' := 4) 1 ⟨Tryz.underlying257, Tryz.sizeOf146⟩ rfl rfl rfl (by decide) rfl) ?_
      refine AW.step (i := 5) rfl (by kernel_rfl) (Wn.plain rfl) rfl (Ex.store Tryz.sizeOf146 rfl rfl (by constructor) (by repeat constructor) rfl (by repeat constructor) (by repeat constructor)) (.drop (by kernel_rfl) .nil) ?_
      rintro _ _ rfl; refine ⟨by repeat constructor, ?_⟩
      refine AW.done (by kernel_rfl) ?_
      refine W.seq ?_
      refine W.draw mixed ?_
      refine Aq (i := 0) rfl (Wn.plain rfl) rfl (fun _ => Yl.move rfl) ?_
      refine Aq (i := 1) rfl (Wn.plain rfl) rfl (fun _ => Yl.nilCheck rfl) ?_
      refine Aq (i := 2) rfl (Wn.plain rfl) rfl (fun _ => Yl.fieldL 2 (fa_259_1) rfl rfl) ?_
      refine Aq (i := 3) rfl (Wn.plain rfl) rfl (fun _ => Yl.indexA (o' := 2) 0 ⟨Tryz.underlying257, Tryz.sizeOf146⟩ rfl rfl rfl (by decide) rfl) ?_
      refine Al (i := 4) rfl (Wn.plain rfl) rfl (by repeat constructor) (Yl.load ⟨Tryz.isAgg146, Tryz.sizeOf146⟩ rfl .head (by repeat constructor)) ?_
      refine Aq (i := 5) rfl (Wn.plain rfl) rfl (fun _ => Yl.move rfl) ?_
      refine Aq (i := 6) rfl (Wn.plain rfl) rfl (fun _ => Yl.nilCheck rfl) ?_
      refine Aq (i := 7) rfl (Wn.plain rfl) rfl (fun _ => Yl.fieldL 2 (fa_259_1) rfl rfl) ?_
      refine Aq (i := 8) rfl (Wn.plain rfl) rfl (fun _ => Yl.indexA (o' := 4) 1 ⟨Tryz.underlying257, Tryz.sizeOf146⟩ rfl rfl rfl (by decide) rfl) ?_
      refine Al (i := 9) rfl (Wn.plain rfl) rfl (by repeat constructor) (Yl.load ⟨Tryz.isAgg146, Tryz.sizeOf146⟩ rfl .head (by repeat constructor)) ?_
      refine AW.step (i := 10) rfl (by kernel_rfl) (Wn.plain rfl) rfl (Ex.call rfl rfl rfl (FnC.tri0 Tryz.call245 (c_lCompare _ _)) (by repeat constructor)) (.drop (by kernel_rfl) (.drop (by kernel_rfl) .nil)) ?_
      rintro _ _ ⟨_, ⟨rfl, rfl⟩, rfl⟩; refine ⟨by repeat constructor, ?_⟩
      refine Aq (i := 11) rfl (Wn.plain rfl) rfl (fun _ => Yl.move rfl) ?_
      refine Aq (i := 12) rfl (Wn.plain rfl) rfl (fun _ => Yl.extract rfl (by repeat constructor)) ?_
      refine Aq (i := 13) rfl (Wn.plain rfl) rfl (fun _ => Yl.extract rfl (by repeat constructor)) ?_
      refine Aq (i := 14) rfl (Wn.plain rfl) rfl (fun _ => Yl.assign rfl) ?_
      refine Aq (i := 15) rfl (Wn.plain rfl) rfl (fun _ => Yl.assign rfl) ?_
      refine AW.done (by kernel_rfl) ?_
      refine W.seq ?_
      refine W.draw mixed ?_
      refine Aq (i := 0) rfl (Wn.plain rfl) rfl (fun _ => Yl.move rfl) ?_
      refine Aq (i := 1) rfl (Wn.plain rfl) rfl (fun _ => Yl.nilCheck rfl) ?_
      refine Aq (i := 2) rfl (Wn.plain rfl) rfl (fun _ => Yl.fieldL 2 (fa_259_1) rfl rfl) ?_
      refine Aq (i := 3) rfl (Wn.plain rfl) rfl (fun _ => Yl.indexA (o' := 2) 0 ⟨Tryz.underlying257, Tryz.sizeOf146⟩ rfl rfl rfl (by decide) rfl) ?_
      refine Al (i := 4) rfl (Wn.plain rfl) rfl (by repeat constructor) (Yl.load ⟨Tryz.isAgg146, Tryz.sizeOf146⟩ rfl .head (by repeat constructor)) ?_
      refine Aq (i := 5) rfl (Wn.plain rfl) rfl (fun _ => Yl.move rfl) ?_
      refine Aq (i := 6) rfl (Wn.plain rfl) rfl (fun _ => Yl.nilCheck rfl) ?_
      refine Aq (i := 7) rfl (Wn.plain rfl) rfl (fun _ => Yl.fieldL 2 (fa_259_1) rfl rfl) ?_
      refine Aq (i := 8) rfl (Wn.plain rfl) rfl (fun _ => Yl.indexA (o' := 4) 1 ⟨Tryz.underlying257, Tryz.sizeOf146⟩ rfl rfl rfl (by decide) rfl) ?_
      refine Al (i := 9) rfl (Wn.plain rfl) rfl (by repeat constructor) (Yl.load ⟨Tryz.isAgg146, Tryz.sizeOf146⟩ rfl .head (by repeat constructor)) ?_
      refine Aq (i := 10) rfl (Wn.plain rfl) rfl (fun _ => Yl.eqst (eqv_146 _ _) rfl rfl) ?_
      refine Aq (i := 11) rfl (Wn.plain rfl) rfl (fun _ => Yl.move rfl) ?_
      refine AW.split (t := 113) rfl (fun hq15 => ?_) (fun hq15 => ?_)
      ·have hq15d := of_decide_eq_true hq15
       refine AW.not (i := 12) rfl (by kernel_rfl) (by kernel_rfl) (by kernel_rfl) (Wn.not rfl rfl rfl hq15) rfl ?_
       refine AW.not (i := 13) rfl (by kernel_rfl) (by kernel_rfl) (by kernel_rfl) (Wn.not rfl rfl rfl hq15) rfl ?_
       refine Aq (i := 14) rfl (Wn.plain rfl) rfl (fun _ => Yl.pick_true rfl hq15 rfl) ?_
       refine Aq (i := 15) rfl (Wn.plain rfl) rfl (fun _ => Yl.assign rfl) ?_
       refine AW.done (by kernel_rfl) ?_
       refine W.ret ?_
       have k0 : (if d.many + 1 = 2 ∨ 0 < cmpL (slopeD d b b.Lo) d.e0 then slopeD d b b.Lo else d.e0) = d.e0 := by first | exact if_pos (.inl (by assumption)) | exact if_pos (.inr (by assumption)) | exact if_neg (by rintro (hc | hc) <;> first | exact hq2d hc | exact hq3d hc | exact hq4d hc | exact hq5d hc | exact hq6d hc | exact hq7d hc | exact hq8d hc | exact hq9d hc | exact hq10d hc | exact hq11d hc | exact hq12d hc | exact hq13d hc | exact hq14d hc | exact hq15d hc | exact hq16d hc | exact hq17d hc | exact hq18d hc | exact hq19d hc | exact hq20d hc | exact hq21d hc | exact hq22d hc | exact hq23d hc)
       have k1 : (if d.many + 1 = 2 ∨ cmpL (slopeD d b b.Hi) d.e1 < 0 then slopeD d b b.Hi else d.e1) = slopeD d b b.Hi := by first | exact if_pos (.inl (by assumption)) | exact if_pos (.inr (by assumption)) | exact if_neg (by rintro (hc | hc) <;> first | exact hq2d hc | exact hq3d hc | exact hq4d hc | exact hq5d hc | exact hq6d hc | exact hq7d hc | exact hq8d hc | exact hq9d hc | exact hq10d hc | exact hq11d hc | exact hq12d hc | exact hq13d hc | exact hq14d hc | exact hq15d hc | exact hq16d hc | exact hq17d hc | exact hq18d hc | exact hq19d hc | exact hq20d hc | exact hq21d hc | exact hq22d hc | exact hq23d hc)
       rw [takeD_r _ _ hq1d k0 k1]
       refine Fin.mk (Rsl.one rfl rfl) ⟨boolv ?_, rfl⟩ (by repeat constructor) (by repeat constructor)
       first | exact bor_tt (by assumption) | exact bor_ff (by assumption)
      ·have hq15d := of_decide_eq_false hq15
       refine Aq (i := 12) rfl (Wn.run rfl rfl rfl hq15) rfl (fun _ => Yl.move rfl) ?_
       refine Aq (i := 13) rfl (Wn.run rfl rfl rfl hq15) rfl (fun _ => Yl.lss rfl rfl) ?_
       refine Aq (i := 14) rfl (Wn.plain rfl) rfl (fun _ => Yl.pick_false rfl hq15 rfl) ?_
       refine Aq (i := 15) rfl (Wn.plain rfl) rfl (fun _ => Yl.assign rfl) ?_
       refine AW.done (by kernel_rfl) ?_
       refine W.ret ?_
       have k0 : (if d.many + 1 = 2 ∨ 0 < cmpL (slopeD d b b.Lo) d.e0 then slopeD d b b.Lo else d.e0) = d.e0 := by first | exact if_pos (.inl (by assumption)) | exact if_pos (.inr (by assumption)) | exact if_neg (by rintro (hc | hc) <;> first | exact hq2d hc | exact hq3d hc | exact hq4d hc | exact hq5d hc | exact hq6d hc | exact hq7d hc | exact hq8d hc | exact hq9d hc | exact hq10d hc | exact hq11d hc | exact hq12d hc | exact hq13d hc | exact hq14d hc | exact hq15d hc | exact hq16d hc | exact hq17d hc | exact hq18d hc | exact hq19d hc | exact hq20d hc | exact hq21d hc | exact hq22d hc | exact hq23d hc)
       have k1 : (if d.many + 1 = 2 ∨ cmpL (slopeD d b b.Hi) d.e1 < 0 then slopeD d b b.Hi else d.e1) = slopeD d b b.Hi := by first | exact if_pos (.inl (by assumption)) | exact if_pos (.inr (by assumption)) | exact if_neg (by rintro (hc | hc) <;> first | exact hq2d hc | exact hq3d hc | exact hq4d hc | exact hq5d hc | exact hq6d hc | exact hq7d hc | exact hq8d hc | exact hq9d hc | exact hq10d hc | exact hq11d hc | exact hq12d hc | exact hq13d hc | exact hq14d hc | exact hq15d hc | exact hq16d hc | exact hq17d hc | exact hq18d hc | exact hq19d hc | exact hq20d hc | exact hq21d hc | exact hq22d hc | exact hq23d hc)
       rw [takeD_r _ _ hq1d k0 k1]
       refine Fin.mk (Rsl.one rfl rfl) ⟨boolv ?_, rfl⟩ (by repeat constructor) (by repeat constructor)
       first | exact bor_tt (by assumption) | exact bor_ff (by assumption)
     ·have hq14d := of_decide_eq_false hq14
      refine OW.yl (Wn.run rfl rfl rfl hq14) rfl (Yl.move rfl) ?_
      refine OW.yl (Wn.run rfl rfl rfl hq14) rfl (Yl.lss rfl rfl) ?_
      refine Oy rfl (Yl.pick_false rfl hq14 rfl) ?_
      refine OW.nil ?_
      refine W.cond rfl (fun hq16 => ?_) (fun hq16 => ?_)
      ·have hq16d := of_decide_eq_true hq16
       refine W.draw mixed ?_
       refine Aq (i := 0) rfl (Wn.plain rfl) rfl (fun _ => Yl.move rfl) ?_
       refine Al (i := 1) rfl (Wn.plain rfl) rfl (by repeat constructor) (Yl.load ⟨Tryz.isAgg146, Tryz.sizeOf146⟩ rfl .head (by repeat constructor)) ?_
       refine Aq (i := 2) rfl (Wn.plain rfl) rfl (fun _ => Yl.nilCheck rfl) ?_
       refine Aq (i := 3) rfl (Wn.plain rfl) rfl (fun _ => Yl.fieldL 2 (fa_259_1) rfl rfl) ?_
       refine Aq (i := 4) rfl (Wn.plain rfl) rfl (fun _ => Yl.indexA (o' := 4) 1 ⟨Tryz.underlying257, Tryz.sizeOf146⟩ rfl rfl rfl (by decide) rfl) ?_
       refine AW.step (i := 5) rfl (by kernel_rfl) (Wn.plain rfl) rfl (Ex.store Tryz.sizeOf146 rfl rfl (by constructor) (by repeat constructor) rfl (by repeat constructor) (by repeat constructor)) (.drop (by kernel_rfl) .nil) ?_
       rintro _ _ rfl; refine ⟨by repeat constructor, ?_⟩
       refine AW.done (by kernel_rfl) ?_
       refine W.seq ?_
       refine W.draw mixed ?_
       refine Aq (i := 0) rfl (Wn.plain rfl) rfl (fun _ => Yl.move rfl) ?_
       refine Aq (i := 1) rfl (Wn.plain rfl) rfl (fun _ => Yl.nilCheck rfl) ?_
       refine Aq (i := 2) rfl (Wn.plain rfl) rfl (fun _ => Yl.fieldL 2 (fa_259_1) rfl rfl) ?_
       refine Aq (i := 3) rfl (Wn.plain rfl) rfl (fun _ => Yl.indexA (o' := 2) 0 ⟨Tryz.underlying257, Tryz.sizeOf146⟩ rfl rfl rfl (by decide) rfl) ?_
       refine Al (i := 4) rfl (Wn.plain rfl) rfl (by repeat constructor) (Yl.load ⟨Tryz.isAgg146, Tryz.sizeOf146⟩ rfl .head (by repeat constructor)) ?_
       refine Aq (i := 5) rfl (Wn.plain rfl) rfl (fun _ => Yl.move rfl) ?_
       refine Aq (i := 6) rfl (Wn.plain rfl) rfl (fun _ => Yl.nilCheck rfl) ?_
       refine Aq (i := 7) rfl (Wn.plain rfl) rfl (fun _ => Yl.fieldL 2 (fa_259_1) rfl rfl) ?_
       refine Aq (i := 8) rfl (Wn.plain rfl) rfl (fun _ => Yl.indexA (o' := 4) 1 ⟨Tryz.underlying257, Tryz.sizeOf146⟩ rfl rfl rfl (by decide) rfl) ?_
       refine Al (i := 9) rfl (Wn.plain rfl) rfl (by repeat constructor) (Yl.load ⟨Tryz.isAgg146, Tryz.sizeOf146⟩ rfl .head (by repeat constructor)) ?_
       refine AW.step (i := 10) rfl (by kernel_rfl) (Wn.plain rfl) rfl (Ex.call rfl rfl rfl (FnC.tri0 Tryz.call245 (c_lCompare _ _)) (by repeat constructor)) (.drop (by kernel_rfl) (.drop (by kernel_rfl) .nil)) ?_
       rintro _ _ ⟨_, ⟨rfl, rfl⟩, rfl⟩; refine ⟨by repeat constructor, ?_⟩
       refine Aq (i := 11) rfl (Wn.plain rfl) rfl (fun _ => Yl.move rfl) ?_
       refine Aq (i := 12) rfl (Wn.plain rfl) rfl (fun _ => Yl.extract rfl (by repeat constructor)) ?_
       refine Aq (i := 13) rfl (Wn.plain rfl) rfl (fun _ => Yl.extract rfl (by repeat constructor)) ?_
       refine Aq (i := 14) rfl (Wn.plain rfl) rfl (fun _ => Yl.assign rfl) ?_
       refine Aq (i := 15) rfl (Wn.plain rfl) rfl (fun _ => Yl.assign rfl) ?_
       refine AW.done (by kernel_rfl) ?_
       refine W.seq ?_
       refine W.draw mixed ?_
       refine Aq (i := 0) rfl (Wn.plain rfl) rfl (fun _ => Yl.move rfl) ?_
       refine Aq (i := 1) rfl (Wn.plain rfl) rfl (fun _ => Yl.nilCheck rfl) ?_
       refine Aq (i := 2) rfl (Wn.plain rfl) rfl (fun _ => Yl.fieldL 2 (fa_259_1) rfl rfl) ?_
       refine Aq (i := 3) rfl (Wn.plain rfl) rfl (fun _ => Yl.indexA (o' := 2) 0 ⟨Tryz.underlying257, Tryz.sizeOf146⟩ rfl rfl rfl (by decide) rfl) ?_
       refine Al (i := 4) rfl (Wn.plain rfl) rfl (by repeat constructor) (Yl.load ⟨Tryz.isAgg146, Tryz.sizeOf146⟩ rfl .head (by repeat constructor)) ?_
       refine Aq (i := 5) rfl (Wn.plain rfl) rfl (fun _ => Yl.move rfl) ?_
       refine Aq (i := 6) rfl (Wn.plain rfl) rfl (fun _ => Yl.nilCheck rfl) ?_
       refine Aq (i := 7) rfl (Wn.plain rfl) rfl (fun _ => Yl.fieldL 2 (fa_259_1) rfl rfl) ?_
       refine Aq (i := 8) rfl (Wn.plain rfl) rfl (fun _ => Yl.indexA (o' := 4) 1 ⟨Tryz.underlying257, Tryz.sizeOf146⟩ rfl rfl rfl (by decide) rfl) ?_
       refine Al (i := 9) rfl (Wn.plain rfl) rfl (by repeat constructor) (Yl.load ⟨Tryz.isAgg146, Tryz.sizeOf146⟩ rfl .head (by repeat constructor)) ?_
       refine Aq (i := 10) rfl (Wn.plain rfl) rfl (fun _ => Yl.eqst (eqv_146 _ _) rfl rfl) ?_
       refine Aq (i := 11) rfl (Wn.plain rfl) rfl (fun _ => Yl.move rfl) ?_
       refine AW.split (t := 113) rfl (fun hq17 => ?_) (fun hq17 => ?_)
       ·have hq17d := of_decide_eq_true hq17
        refine AW.not (i := 12) rfl (by kernel_rfl) (by kernel_rfl) (by kernel_rfl) (Wn.not rfl rfl rfl hq17) rfl ?_
        refine AW.not (i := 13) rfl (by kernel_rfl) (by kernel_rfl) (by kernel_rfl) (Wn.not rfl rfl rfl hq17) rfl ?_
        refine Aq (i := 14) rfl (Wn.plain rfl) rfl (fun _ => Yl.pick_true rfl hq17 rfl) ?_
        refine Aq (i := 15) rfl (Wn.plain rfl) rfl (fun _ => Yl.assign rfl) ?_
        refine AW.done (by kernel_rfl) ?_
        refine W.ret ?_
        have k0 : (if d.many + 1 = 2 ∨ 0 < cmpL (slopeD d b b.Lo) d.e0 then slopeD d b b.Lo else d.e0) = d.e0 := by first | exact if_pos (.inl (by assumption)) | exact if_pos (.inr (by assumption)) | exact if_neg (by rintro (hc | hc) <;> first | exact hq2d hc | exact hq3d hc | exact hq4d hc | exact hq5d hc | exact hq6d hc | exact hq7d hc | exact hq8d hc | exact hq9d hc | exact hq10d hc | exact hq11d hc | exact hq12d hc | exact hq13d hc | exact hq14d hc | exact hq15d hc | exact hq16d hc | exact hq17d hc | exact hq18d hc | exact hq19d hc | exact hq20d hc | exact hq21d hc | exact hq22d hc | exact hq23d hc)
        have k1 : (if d.many + 1 = 2 ∨ cmpL (slopeD d b b.Hi) d.e1 < 0 then slopeD d b b.Hi else d.e1) = slopeD d b b.Hi := by first | exact if_pos (.inl (by assumption)) | exact if_pos (.inr (by assumption)) | exact if_neg (by rintro (hc | hc) <;> first | exact hq2d hc | exact hq3d hc | exact hq4d hc | exact hq5d hc | exact hq6d hc | exact hq7d hc | exact hq8d hc | exact hq9d hc | exact hq10d hc | exact hq11d hc | exact hq12d hc | exact hq13d hc | exact hq14d hc | exact hq15d hc | exact hq16d hc | exact hq17d hc | exact hq18d hc | exact hq19d hc | exact hq20d hc | exact hq21d hc | exact hq22d hc | exact hq23d hc)
        rw [takeD_r _ _ hq1d k0 k1]
        refine Fin.mk (Rsl.one rfl rfl) ⟨boolv ?_, rfl⟩ (by repeat constructor) (by repeat constructor)
        first | exact bor_tt (by assumption) | exact bor_ff (by assumption)
       ·have hq17d := of_decide_eq_false hq17
        refine Aq (i := 12) rfl (Wn.run rfl rfl rfl hq17) rfl (fun _ => Yl.move rfl) ?_
        refine Aq (i := 13) rfl (Wn.run rfl rfl rfl hq17) rfl (fun _ => Yl.lss rfl rfl) ?_
        refine Aq (i := 14) rfl (Wn.plain rfl) rfl (fun _ => Yl.pick_false rfl hq17 rfl) ?_
        refine Aq (i := 15) rfl (Wn.plain rfl) rfl (fun _ => Yl.assign rfl) ?_
        refine AW.done (by kernel_rfl) ?_
        refine W.ret ?_
        have k0 : (if d.many + 1 = 2 ∨ 0 < cmpL (slopeD d b b.Lo) d.e0 then slopeD d b b.Lo else d.e0) = d.e0 := by first | exact if_pos (.inl (by assumption)) | exact if_pos (.inr (by assumption)) | exact if_neg (by rintro (hc | hc) <;> first | exact hq2d hc | exact hq3d hc | exact hq4d hc | exact hq5d hc | exact hq6d hc | exact hq7d hc | exact hq8d hc | exact hq9d hc | exact hq10d hc | exact hq11d hc | exact hq12d hc | exact hq13d hc | exact hq14d hc | exact hq15d hc | exact hq16d hc | exact hq17d hc | exact hq18d hc | exact hq19d hc | exact hq20d hc | exact hq21d hc | exact hq22d hc | exact hq23d hc)
        have k1 : (if d.many + 1 = 2 ∨ cmpL (slopeD d b b.Hi) d.e1 < 0 then slopeD d b b.Hi else d.e1) = slopeD d b b.Hi := by first | exact if_pos (.inl (by assumption)) | exact if_pos (.inr (by assumption)) | exact if_neg (by rintro (hc | hc) <;> first | exact hq2d hc | exact hq3d hc | exact hq4d hc | exact hq5d hc | exact hq6d hc | exact hq7d hc | exact hq8d hc | exact hq9d hc | exact hq10d hc | exact hq11d hc | exact hq12d hc | exact hq13d hc | exact hq14d hc | exact hq15d hc | exact hq16d hc | exact hq17d hc | exact hq18d hc | exact hq19d hc | exact hq20d hc | exact hq21d hc | exact hq22d hc | exact hq23d hc)
        rw [takeD_r _ _ hq1d k0 k1]
        refine Fin.mk (Rsl.one rfl rfl) ⟨boolv ?_, rfl⟩ (by repeat constructor) (by repeat constructor)
        first | exact bor_tt (by assumption) | exact bor_ff (by assumption)
      ·have hq16d := of_decide_eq_false hq16
       refine W.skip ?_
       refine W.seq ?_
       refine W.draw mixed ?_
       refine Aq (i := 0) rfl (Wn.plain rfl) rfl (fun _ => Yl.move rfl) ?_
       refine Aq (i := 1) rfl (Wn.plain rfl) rfl (fun _ => Yl.nilCheck rfl) ?_
       refine Aq (i := 2) rfl (Wn.plain rfl) rfl (fun _ => Yl.fieldL 2 (fa_259_1) rfl rfl) ?_
       refine Aq (i := 3) rfl (Wn.plain rfl) rfl (fun _ => Yl.indexA (o' := 2) 0 ⟨Tryz.underlying257, Tryz.sizeOf146⟩ rfl rfl rfl (by decide) rfl) ?_
       refine Al (i := 4) rfl (Wn.plain rfl) rfl (by repeat constructor) (Yl.load ⟨Tryz.isAgg146, Tryz.sizeOf146⟩ rfl .head (by repeat constructor)) ?_
       refine Aq (i := 5) rfl (Wn.plain rfl) rfl (fun _ => Yl.move rfl) ?_
       refine Aq (i := 6) rfl (Wn.plain rfl) rfl (fun _ => Yl.nilCheck rfl) ?_
       refine Aq (i := 7) rfl (Wn.plain rfl) rfl (fun _ => Yl.fieldL 2 (fa_259_1) rfl rfl) ?_
       refine Aq (i := 8) rfl (Wn.plain rfl) rfl (fun _ => Yl.indexA (o' := 4) 1 ⟨Tryz.underlying257, Tryz.sizeOf146⟩ rfl rfl rfl (by decide) rfl) ?_
       refine Al (i := 9) rfl (Wn.plain rfl) rfl (by repeat constructor) (Yl.load ⟨Tryz.isAgg146, Tryz.sizeOf146⟩ rfl .head (by repeat constructor)) ?_
       refine AW.step (i := 10) rfl (by kernel_rfl) (Wn.plain rfl) rfl (Ex.call rfl rfl rfl (FnC.tri0 Tryz.call245 (c_lCompare _ _)) (by repeat constructor)) (.drop (by kernel_rfl) (.drop (by kernel_rfl) .nil)) ?_
       rintro _ _ ⟨_, ⟨rfl, rfl⟩, rfl⟩; refine ⟨by repeat constructor, ?_⟩
       refine Aq (i := 11) rfl (Wn.plain rfl) rfl (fun _ => Yl.move rfl) ?_
       refine Aq (i := 12) rfl (Wn.plain rfl) rfl (fun _ => Yl.extract rfl (by repeat constructor)) ?_
       refine Aq (i := 13) rfl (Wn.plain rfl) rfl (fun _ => Yl.extract rfl (by repeat constructor)) ?_
       refine Aq (i := 14) rfl (Wn.plain rfl) rfl (fun _ => Yl.assign rfl) ?_
       refine Aq (i := 15) rfl (Wn.plain rfl) rfl (fun _ => Yl.assign rfl) ?_
       refine AW.done (by kernel_rfl) ?_
       refine W.seq ?_
       refine W.draw mixed ?_
       refine Aq (i := 0) rfl (Wn.plain rfl) rfl (fun _ => Yl.move rfl) ?_
       refine Aq (i := 1) rfl (Wn.plain rfl) rfl (fun _ => Yl.nilCheck rfl) ?_
       refine Aq (i := 2) rfl (Wn.plain rfl) rfl (fun _ => Yl.fieldL 2 (fa_259_1) rfl rfl) ?_
       refine Aq (i := 3) rfl (Wn.plain rfl) rfl (fun _ => Yl.indexA (o' := 2) 0 ⟨Tryz.underlying257, Tryz.sizeOf146⟩ rfl rfl rfl (by decide) rfl) ?_
       refine Al (i := 4) rfl (Wn.plain rfl) rfl (by repeat constructor) (Yl.load ⟨Tryz.isAgg146, Tryz.sizeOf146⟩ rfl .head (by repeat constructor)) ?_
       refine Aq (i := 5) rfl (Wn.plain rfl) rfl (fun _ => Yl.move rfl) ?_
       refine Aq (i := 6) rfl (Wn.plain rfl) rfl (fun _ => Yl.nilCheck rfl) ?_
       refine Aq (i := 7) rfl (Wn.plain rfl) rfl (fun _ => Yl.fieldL 2 (fa_259_1) rfl rfl) ?_
       refine Aq (i := 8) rfl (Wn.plain rfl) rfl (fun _ => Yl.indexA (o' := 4) 1 ⟨Tryz.underlying257, Tryz.sizeOf146⟩ rfl rfl rfl (by decide) rfl) ?_
       refine Al (i := 9) rfl (Wn.plain rfl) rfl (by repeat constructor) (Yl.load ⟨Tryz.isAgg146, Tryz.sizeOf146⟩ rfl .head (by repeat constructor)) ?_
       refine Aq (i := 10) rfl (Wn.plain rfl) rfl (fun _ => Yl.eqst (eqv_146 _ _) rfl rfl) ?_
       refine Aq (i := 11) rfl (Wn.plain rfl) rfl (fun _ => Yl.move rfl) ?_
       refine AW.split (t := 113) rfl (fun hq18 => ?_) (fun hq18 => ?_)
       ·have hq18d := of_decide_eq_true hq18
        refine AW.not (i := 12) rfl (by kernel_rfl) (by kernel_rfl) (by kernel_rfl) (Wn.not rfl rfl rfl hq18) rfl ?_
        refine AW.not (i := 13) rfl (by kernel_rfl) (by kernel_rfl) (by kernel_rfl) (Wn.not rfl rfl rfl hq18) rfl ?_
        refine Aq (i := 14) rfl (Wn.plain rfl) rfl (fun _ => Yl.pick_true rfl hq18 rfl) ?_
        refine Aq (i := 15) rfl (Wn.plain rfl) rfl (fun _ => Yl.assign rfl) ?_
        refine AW.done (by kernel_rfl) ?_
        refine W.ret ?_
        have k0 : (if d.many + 1 = 2 ∨ 0 < cmpL (slopeD d b b.Lo) d.e0 then slopeD d b b.Lo else d.e0) = d.e0 := by first | exact if_pos (.inl (by assumption)) | exact if_pos (.inr (by assumption)) | exact if_neg (by rintro (hc | hc) <;> first | exact hq2d hc | exact hq3d hc | exact hq4d hc | exact hq5d hc | exact hq6d hc | exact hq7d hc | exact hq8d hc | exact hq9d hc | exact hq10d hc | exact hq11d hc | exact hq12d hc | exact hq13d hc | exact hq14d hc | exact hq15d hc | exact hq16d hc | exact hq17d hc | exact hq18d hc | exact hq19d hc | exact hq20d hc | exact hq21d hc | exact hq22d hc | exact hq23d hc)
        have k1 : (if d.many + 1 = 2 ∨ cmpL (slopeD d b b.Hi) d.e1 < 0 then slopeD d b b.Hi else d.e1) = d.e1 := by first | exact if_pos (.inl (by assumption)) | exact if_pos (.inr (by assumption)) | exact if_neg (by rintro (hc | hc) <;> first | exact hq2d hc | exact hq3d hc | exact hq4d hc | exact hq5d hc | exact hq6d hc | exact hq7d hc | exact hq8d hc | exact hq9d hc | exact hq10d hc | exact hq11d hc | exact hq12d hc | exact hq13d hc | exact hq14d hc | exact hq15d hc | exact hq16d hc | exact hq17d hc | exact hq18d hc | exact hq19d hc | exact hq20d hc | exact hq21d hc | exact hq22d hc | exact hq23d hc)
        rw [takeD_r _ _ hq1d k0 k1]
        refine Fin.mk (Rsl.one rfl rfl) ⟨boolv ?_, rfl⟩ (by repeat constructor) (by repeat constructor)
        first | exact bor_tt (by assumption) | exact bor_ff (by assumption)
       ·have hq18d := of_decide_eq_false hq18
        refine Aq (i := 12) rfl (Wn.run rfl rfl rfl hq18) rfl (fun _ => Yl.move rfl) ?_
        refine Aq (i := 13) rfl (Wn.run rfl rfl rfl hq18) rfl (fun _ => Yl.lss rfl rfl) ?_
        refine Aq (i := 14) rfl (Wn.plain rfl) rfl (fun _ => Yl.pick_false rfl hq18 rfl) ?_
        refine Aq (i := 15) rfl (Wn.plain rfl) rfl (fun _ => Yl.assign rfl) ?_
        refine AW.done (by kernel_rfl) ?_
        refine W.ret ?_
        have k0 : (if d.many + 1 = 2 ∨ 0 < cmpL (slopeD d b b.Lo) d.e0 then slopeD d b b.Lo else d.e0) = d.e0 := by first | exact if_pos (.inl (by assumption)) | exact if_pos (.inr (by assumption)) | exact if_neg (by rintro (hc | hc) <;> first | exact hq2d hc | exact hq3d hc | exact hq4d hc | exact hq5d hc | exact hq6d hc | exact hq7d hc | exact hq8d hc | exact hq9d hc | exact hq10d hc | exact hq11d hc | exact hq12d hc | exact hq13d hc | exact hq14d hc | exact hq15d hc | exact hq16d hc | exact hq17d hc | exact hq18d hc | exact hq19d hc | exact hq20d hc | exact hq21d hc | exact hq22d hc | exact hq23d hc)
        have k1 : (if d.many + 1 = 2 ∨ cmpL (slopeD d b b.Hi) d.e1 < 0 then slopeD d b b.Hi else d.e1) = d.e1 := by first | exact if_pos (.inl (by assumption)) | exact if_pos (.inr (by assumption)) | exact if_neg (by rintro (hc | hc) <;> first | exact hq2d hc | exact hq3d hc | exact hq4d hc | exact hq5d hc | exact hq6d hc | exact hq7d hc | exact hq8d hc | exact hq9d hc | exact hq10d hc | exact hq11d hc | exact hq12d hc | exact hq13d hc | exact hq14d hc | exact hq15d hc | exact hq16d hc | exact hq17d hc | exact hq18d hc | exact hq19d hc | exact hq20d hc | exact hq21d hc | exact hq22d hc | exact hq23d hc)
        rw [takeD_r _ _ hq1d k0 k1]
        refine Fin.mk (Rsl.one rfl rfl) ⟨boolv ?_, rfl⟩ (by repeat constructor) (by repeat constructor)
        first | exact bor_tt (by assumption) | exact bor_ff (by assumption)

def doorsM (d : Door) : List Bnd → List (Door × Bool)
  | [] => []
  | b :: bs => takeD d b :: doorsM (takeD d b).1 bs
theorem doorsM_len (l : List Bnd) : ∀ d, (doorsM d l).length = l.length := by
 induction l with
 | nil => intro d; rfl
 | cons b bs ih => intro d; simp [doorsM, ih]
theorem take_many (d : Door) (b : Bnd) : (takeD d b).1.many = d.many + 1 := by unfold takeD; split <;> rfl
theorem take_ok {d : Door} {b : Bnd} (hd : DoorOk d) (hm : d.many ≤ 4000) (hb : BndOk b) : DoorOk (takeD d b).1 := by
 have hmi := mid_in hb
 unfold BndOk at hb
 unfold takeD
 split
 ·unfold DoorOk at *; dsimp only; omega
 ·unfold DoorOk at *; dsimp only; omega
theorem drop_of_at {α : Type} {l : List α} {k : Nat} {x : α} (h : l[k]? = some x) : l.drop k = x :: l.drop (k + 1) := by
 obtain ⟨h1, h2⟩ := List.getElem?_eq_some_iff.1 h
 rw [List.drop_eq_getElem_cons h1, h2]
def BndsOk (l : List Bnd) : Prop := ∀ b ∈ l, BndOk b
theorem bnds_ok {l : List Bnd} (h : bandsM l = true) : BndsOk l := fun b hb => bandsM_mem h b hb

theorem i_doors (l : List Bnd) (a : Option Addr) (c b : Nat) (hl : l.length ≤ 4000) (hok : BndsOk l) : Iter Tryz.prog 281 [] [.pointer (some ⟨b, 0, none⟩)] [.cell b [.slice a l.length c] 38, rowI 3 encB l a c] [] (doorsM door0 l) (fun x vs Lx => vs = [.agg (encD (Prod.fst x)).toArray, .bool (Prod.snd x)] ∧ Lx = []) := by
 intro yv S Sx I R Ix Rx s0 h0 hyld
 refine FnC.go (m := 24) Tryz.func281 Tryz.ntmps281 rfl (Nat.le_of_ble_eq_true rfl) (fun Lf => ?_)
 refine Wr ?_
 refine OW.alloc (Wn.plain rfl) rfl Tryz.zeroValue259 (by constructor) (fun b1 => ?_)
 refine OW.nil ?_
 refine Wr ?_
 refine Oy rfl (Yl.makeFunc rfl rfl) ?_
 refine Oy rfl (Yl.assign rfl) ?_
 refine OW.nil ?_
 refine Wr ?_
 refine Oy rfl (Yl.load1 Tryz.isAgg38 rfl (by repeat constructor) (by repeat constructor)) ?_
 refine Oy rfl (Yl.len ⟨Tryz.underlying38, Tryz.sizeOf42⟩ rfl) ?_
 refine Oy rfl (Yl.move rfl) ?_
 refine OW.nil ?_
 refine W.block ?_
 refine W.loopS (X := (Nat) × (Door) × (S)) (fun (x : (Nat) × (Door) × (S)) => match x with | (i, d, s) => (i ≤ l.length ∧ ((doorsM door0 l).drop i = doorsM d (l.drop i) ∧ I i s ∧ DoorOk d ∧ d.many ≤ i) : Prop)) (fun (x : (Nat) × (Door) × (S)) => match x with | (i, d, s) => ([(11, .int .i64 (i : Int))] : Env)) (fun (x : (Nat) × (Door) × (S)) => match x with | (i, d, s) => (([.cell b1 (encD d) 259, .cell b [.slice a l.length c] 38, rowI 3 encB l a c] ++ R s) : List Res)) (fun (x : (Nat) × (Door) × (S)) => match x with | (i, d, s) => (l.length - i : Nat)) (0, door0, s0) [(0, _), (3, _), (4, _), (9, _), (10, _)] (by exact ⟨Nat.zero_le _, rfl, h0, by unfold DoorOk door0; decide, by unfold door0; decide⟩) (Le.cons rfl (Le.cons rfl (Le.cons rfl (Le.cons rfl (Le.cons rfl (Le.cons rfl (Le.nil _))))))) (by repeat constructor) ?_
 rintro ⟨i, d, s⟩ ⟨hi, hinv⟩
 show W _ _ _ _ _ _ ([(11, .int .i64 (i : Int))] ++ _) _ (([.cell b1 (encD d) 259, .cell b [.slice a l.length c] 38, rowI 3 encB l a c] ++ R s) ++ _)
 obtain ⟨i1, i2, i3, i4⟩ := hinv
 refine Wr ?_
 refine Oy rfl (Yl.lss rfl rfl) ?_
 refine OW.nil ?_
 refine W.seq ?_
 refine W.cond rfl (fun hq1 => ?_) (fun hq1 => ?_)
 ·have hq1d := of_decide_eq_true hq1
  obtain ⟨y, hy, hdr⟩ := drop_at (l := l) (i := i) (by omega)
  rw [hdr] at i1
  obtain ⟨i5, i6, i7⟩ := drop_head i1
  have hby := hok y (List.mem_of_getElem? hy)
  refine W.skip ?_
  refine W.seq ?_
  refine W.block ?_
  refine Wr ?_
  refine OW.fact (Sl.isSome (by repeat constructor) (by omega)) ?_
  rintro ⟨p1, hp1⟩; try dsimp only at hp1
  subst hp1
  refine Oy rfl (Yl.indexS i ⟨Tryz.underlying38, Tryz.sizeOf42⟩ rfl rfl rfl (by omega)) ?_
  refine Oy rfl (Yl.loadE ⟨Tryz.isAgg42, Tryz.sizeOf42⟩ rfl (by repeat constructor) (map_at hy)) ?_
  refine OW.alloc (Wn.plain rfl) rfl Tryz.zeroValue42 (by constructor) (fun b2 => ?_)
  refine OW.store (Wn.plain rfl) Tryz.sizeOf42 rfl rfl (by constructor) (by repeat constructor) rfl (by repeat constructor) (by repeat constructor) ?_
  refine OW.nil ?_
  refine Wr ?_
  refine Oy rfl (Yl.move rfl) ?_
  refine Oy rfl (Yl.load ⟨Tryz.isAgg42, Tryz.sizeOf42⟩ rfl (by repeat constructor) (by repeat constructor)) ?_
  refine OW.call (Wn.plain rfl) rfl rfl rfl (FnC.triC Tryz.call282 (c_take b1 d y i3 (by omega) hby)) (by repeat constructor) ?_
  rintro _ _ ⟨rfl, rfl⟩
  refine Oy rfl (Yl.assign rfl) ?_
  refine OW.nil ?_
  refine Wr ?_
  refine Oy rfl (Yl.move rfl) ?_
  refine Oy rfl (Yl.load ⟨Tryz.isAgg259, Tryz.sizeOf259⟩ rfl (by repeat constructor) (by repeat constructor)) ?_
  refine Oy rfl (Yl.move rfl) ?_
  refine OW.yield (Wn.plain rfl) rfl rfl rfl (by repeat constructor) (by repeat constructor) (hyld i _ s _ [] i5 ⟨rfl, rfl⟩ i2) ?_ ?_
  ·rintro s' hI'
   refine Oy rfl (Yl.not rfl) ?_
   refine OW.nil ?_
   refine W.cond_f1 rfl (bnot_t rfl) ?_
   refine W.skip ?_
   refine W.region ?_
   refine Oy rfl (Yl.add rfl rfl (by omega)) ?_
   refine Oy rfl (Yl.move rfl) ?_
   refine OW.nil ?_
   refine ⟨(i + 1, (takeD d y).1, s'), _, ⟨by omega, ?_⟩, (Le.cons rfl (Le.cons rfl (Le.cons rfl (Le.cons rfl (Le.cons rfl (Le.cons rfl (Le.nil _))))))), rfl, by repeat constructor, by repeat constructor, by first | omega | (dsimp only; omega)⟩
   exact ⟨i6, hI', take_ok i3 (by omega) hby, by rw [take_many]; omega⟩
  ·rintro s' hX
   refine Oy rfl (Yl.not rfl) ?_
   refine OW.nil ?_
   refine W.cond_t1 rfl (bnot_f rfl) ?_
   refine W.ret ?_
   first | exact Fin.it (Rsl.none rfl) (by repeat constructor) (.inr ⟨_, hX, rfl⟩) (by repeat constructor) | exact Fin.it (Rsl.none rfl) (by repeat constructor) (.inl ⟨_, i2, rfl⟩) (by repeat constructor)
 ·have hq1d := of_decide_eq_false hq1
  have hil : i = (doorsM door0 l).length := by rw [doorsM_len]; omega
  subst hil
  refine W.exit ?_
  first | exact Fin.it (Rsl.none rfl) (by repeat constructor) (.inr ⟨_, hX, rfl⟩) (by repeat constructor) | exact Fin.it (Rsl.none rfl) (by repeat constructor) (.inl ⟨_, i2, rfl⟩) (by repeat constructor)
theorem c_doors (a : Option Addr) (m c : Nat) : FnC Tryz.prog 240 #[.slice a m c] [] (fun v L' => ∃ b, v = .func (.func 281) #[] #[.pointer (some ⟨b, 0, none⟩)] ∧ L' = [.cell b [.slice a m c] 38]) := by
 refine FnC.go (m := 4) Tryz.func240 Tryz.ntmps240 rfl (Nat.le_of_ble_eq_true rfl) (fun Lf => ?_)
 refine Wr ?_
 refine OW.box (Wn.plain rfl) rfl rfl (by constructor) (fun b1 => ?_)
 refine Oy rfl (Yl.assign rfl) ?_
 refine OW.nil ?_
 refine Wr ?_
 refine Oy rfl (Yl.makeFunc rfl rfl) ?_
 refine Oy rfl (Yl.assign rfl) ?_
 refine OW.nil ?_
 refine W.ret ?_
 exact Fin.mk (Rsl.one rfl rfl) ⟨_, rfl, rfl⟩ (by repeat constructor) (by repeat constructor)

def firstF (n : Nat) (out : Door) : List (Door × Bool) → Nat × Door
  | [] => (n, out)
  | x :: rest => if x.2 then firstF (n + 1) x.1 rest else (n, out)
def firstM (l : List Bnd) : Nat × Door := firstF 0 door0 (doorsM door0 l)
theorem firstF_y {n : Nat} {o : Door} {x : Door × Bool} {r : List (Door × Bool)} (h : x.2 = true) : firstF n o (x :: r) = firstF (n + 1) x.1 r := by simp [firstF, h]
theorem firstF_n {n : Nat} {o : Door} {x : Door × Bool} {r : List (Door × Bool)} (h : x.2 = false) : firstF n o (x :: r) = (n, o) := by simp [firstF, h]
theorem firstF_bd : ∀ (r : List (Door × Bool)) (n : Nat) (o : Door), n ≤ (firstF n o r).1 ∧ (firstF n o r).1 ≤ n + r.length
  | [], n, o => by simp [firstF]
  | x :: r, n, o => by
    cases h : x.2
    · rw [firstF_n h]; simp
    · rw [firstF_y h]; have := firstF_bd r (n + 1) x.1; simp; omega
theorem firstM_pos {l : List Bnd} (h : 0 < l.length) : 1 ≤ (firstM l).1 := by
 cases l with
 | nil => simp at h
 | cons b bs =>
  have h1 : takeD door0 b = (⟨b.T, (b.Lo + b.Hi) / 2, ⟨0, 0⟩, ⟨0, 0⟩, 1⟩, true) := takeD_1 rfl
  unfold firstM doorsM
  rw [firstF_y (by rw [h1])]
  exact (firstF_bd _ 1 _).1
theorem firstM_le (l : List Bnd) : (firstM l).1 ≤ l.length := by have := (firstF_bd (doorsM door0 l) 0 door0).2; rw [doorsM_len] at this; unfold firstM; omega

theorem c_first (l : List Bnd) (a : Option Addr) (c : Nat) (hl : l.length ≤ 4000) (hok : BndsOk l) : FnV Tryz.prog 238 #[.slice a l.length c] [rowI 3 encB l a c] (.tuple #[.int .i64 ((firstM l).1 : Int), .agg (encD (firstM l).2).toArray]) := by
 refine FnC.go (m := 20) Tryz.func238 Tryz.ntmps238 rfl (Nat.le_of_ble_eq_true rfl) (fun Lf => ?_)
 refine Wr ?_
 refine Oy rfl (Yl.assign rfl) ?_
 refine OW.alloc (Wn.plain rfl) rfl Tryz.zeroValue259 (by constructor) (fun b1 => ?_)
 refine OW.nil ?_
 refine W.scope ?_
 refine Wr ?_
 refine Oy rfl (Yl.build (is := []) (xs := []) st_259 rfl rfl (by repeat constructor)) ?_
 refine OW.alloc (Wn.plain rfl) rfl Tryz.zeroValue3 (by constructor) (fun b2 => ?_)
 refine OW.alloc (Wn.plain rfl) rfl Tryz.zeroValue259 (by constructor) (fun b3 => ?_)
 refine OW.store (Wn.plain rfl) Tryz.sizeOf3 rfl rfl (by constructor) (by repeat constructor) rfl (by repeat constructor) (by repeat constructor) ?_
 refine OW.store (Wn.plain rfl) Tryz.sizeOf259 rfl rfl (by constructor) (by repeat constructor) rfl (by repeat constructor) (by repeat constructor) ?_
 refine OW.nil ?_
 refine W.seq ?_
 refine W.label ?_
 refine W.seq ?_
 refine Wr ?_
 refine Oy rfl (Yl.move rfl) ?_
 refine OW.call (Wn.plain rfl) rfl rfl rfl (FnC.tri0 Tryz.call240 (c_doors _ _ _)) (by repeat constructor) ?_
 rintro _ _ ⟨bp, rfl, rfl⟩
 refine OW.nil ?_
 refine W.block ?_
 refine W.rangeF (S := (Nat) × (Door)) (fun (k : Nat) (x : (Nat) × (Door)) => match x with | (n, d) => (firstF 0 door0 (doorsM door0 l) = firstF n d ((doorsM door0 l).drop k) ∧ n ≤ k ∧ k ≤ l.length : Prop)) (fun  (x : (Nat) × (Door)) => match x with | (n, d) => ([.cell b2 [.int .i64 (n : Int)] 3, .cell b3 (encD d) 259] : List Res)) (fun (ex : Exit) (x : (Nat) × (Door)) => match x with | (n, d) => (ex = .exit 0 ∧ firstF 0 door0 (doorsM door0 l) = (n, d) : Prop)) (fun  (x : (Nat) × (Door)) => match x with | (n, d) => ([.cell b2 [.int .i64 (n : Int)] 3, .cell b3 (encD d) 259] : List Res)) (0, door0) rfl Tryz.call281 (i_doors l a c _ hl hok) (by repeat constructor) (by exact ⟨rfl, Nat.le_refl _, Nat.zero_le _⟩) rfl (by rintro _ _ _ ⟨rfl, _⟩; rfl) ?_ ?_ ?_
 ·rintro lp k x ⟨n, d⟩ vs Lx hx ⟨rfl, rfl⟩ hI Lf
  show W _ _ _ _ _ _ _ [] ([] ++ [.cell b2 [.int .i64 (n : Int)] 3, .cell b3 (encD d) 259] ++ Lf)
  obtain ⟨i1, i2, i3⟩ := hI
  have hkl := (List.getElem?_eq_some_iff.1 hx).1
  rw [doorsM_len] at hkl
  rw [drop_of_at hx] at i1
  refine Wr ?_
  refine OW.alloc (Wn.plain rfl) rfl Tryz.zeroValue259 (by constructor) (fun b4 => ?_)
  refine OW.store (Wn.plain rfl) Tryz.sizeOf259 rfl rfl (by constructor) (by repeat constructor) rfl (by repeat constructor) (by repeat constructor) ?_
  refine OW.nil ?_
  refine W.region ?_
  refine Oy rfl (Yl.assign rfl) ?_
  refine OW.nil ?_
  refine ⟨rfl, _, by repeat constructor, fun Lf => ?_⟩
  refine W.block ?_
  refine W.seq ?_
  refine Wr ?_
  refine Oy rfl (Yl.move rfl) ?_
  refine Oy rfl (Yl.not rfl) ?_
  refine OW.nil ?_
  refine W.cond rfl (fun hq1 => ?_) (fun hq1 => ?_)
  ·have hq1n := not_t hq1
   refine W.exit ?_
   refine ⟨(n, d), ?_, EntL (by repeat constructor) (by repeat constructor)⟩
   exact ⟨rfl, by rw [i1, firstF_n (by simp_all)]⟩
  ·have hq1n := not_f hq1
   refine W.skip ?_
   refine W.draw mixed ?_
   refine Al (i := 0) rfl (Wn.plain rfl) rfl (by repeat constructor) (Yl.load1 Tryz.isAgg3 rfl .head (by repeat constructor)) ?_
   refine Aq (i := 1) rfl (Wn.plain rfl) rfl (fun _ => Yl.add rfl rfl (by omega)) ?_
   refine Al (i := 2) rfl (Wn.plain rfl) rfl (by repeat constructor) (Yl.load ⟨Tryz.isAgg259, Tryz.sizeOf259⟩ rfl .head (by repeat constructor)) ?_
   refine AW.step (i := 3) rfl (by kernel_rfl) (Wn.plain rfl) rfl (Ex.store Tryz.sizeOf3 rfl rfl (by constructor) (by repeat constructor) rfl (by repeat constructor) (by repeat constructor)) (.keep (by kernel_rfl) (.drop (by kernel_rfl) .nil)) ?_
   rintro _ _ rfl; refine ⟨by repeat constructor, ?_⟩
   refine AW.step (i := 4) rfl (by kernel_rfl) (Wn.plain rfl) rfl (Ex.store Tryz.sizeOf259 rfl rfl (by constructor) (by repeat constructor) rfl (by repeat constructor) (by repeat constructor)) (.drop (by kernel_rfl) .nil) ?_
   rintro _ _ rfl; refine ⟨by repeat constructor, ?_⟩
   refine AW.done (by kernel_rfl) ?_
   refine ⟨(n + 1, x.1), ?_, EntL (by repeat constructor) (by repeat constructor)⟩
   exact ⟨by rw [i1, firstF_y (by simp_all)], by omega, by omega⟩
 ·rintro D1 ⟨n, d⟩ hI
  have hfin : firstM l = (n, d) := by unfold firstM; rw [hI.1, List.drop_length]; rfl
  refine W.seq ?_
  refine W.draw mixed ?_
  refine Al (i := 0) rfl (Wn.plain rfl) rfl (by repeat constructor) (Yl.load1 Tryz.isAgg3 rfl .head (by repeat constructor)) ?_
  refine Al (i := 1) rfl (Wn.plain rfl) rfl (by repeat constructor) (Yl.load ⟨Tryz.isAgg259, Tryz.sizeOf259⟩ rfl .head (by repeat constructor)) ?_
  refine Aq (i := 2) rfl (Wn.plain rfl) rfl (fun _ => Yl.assign rfl) ?_
  refine AW.step (i := 3) rfl (by kernel_rfl) (Wn.plain rfl) rfl (Ex.store Tryz.sizeOf259 rfl rfl (by constructor) (by repeat constructor) rfl (by repeat constructor) (by repeat constructor)) (.drop (by kernel_rfl) (.drop (by kernel_rfl) .nil)) ?_
  rintro _ _ rfl; refine ⟨by repeat constructor, ?_⟩
  refine AW.done (by kernel_rfl) ?_
  refine W.ret ?_
  refine Fin.marks [D1] rfl (by repeat constructor) ?_
  refine Fin.mk (Rsl.of2 rfl (.tmp rfl) (.cell ⟨Tryz.isAgg259, Tryz.sizeOf259⟩ rfl (by repeat constructor) (by repeat constructor))) ⟨?_, rfl⟩ (by repeat constructor) (by repeat constructor)
  rw [hfin]; rfl
 ·rintro D1 ex ⟨n, d⟩ ⟨rfl, hI⟩
  have hfin : firstM l = (n, d) := hI
  refine W.seq ?_
  refine W.draw mixed ?_
  refine Al (i := 0) rfl (Wn.plain rfl) rfl (by repeat constructor) (Yl.load1 Tryz.isAgg3 rfl .head (by repeat constructor)) ?_
  refine Al (i := 1) rfl (Wn.plain rfl) rfl (by repeat constructor) (Yl.load ⟨Tryz.isAgg259, Tryz.sizeOf259⟩ rfl .head (by repeat constructor)) ?_
  refine Aq (i := 2) rfl (Wn.plain rfl) rfl (fun _ => Yl.assign rfl) ?_
  refine AW.step (i := 3) rfl (by kernel_rfl) (Wn.plain rfl) rfl (Ex.store Tryz.sizeOf259 rfl rfl (by constructor) (by repeat constructor) rfl (by repeat constructor) (by repeat constructor)) (.drop (by kernel_rfl) (.drop (by kernel_rfl) .nil)) ?_
  rintro _ _ rfl; refine ⟨by repeat constructor, ?_⟩
  refine AW.done (by kernel_rfl) ?_
  refine W.ret ?_
  refine Fin.marks [D1] rfl (by repeat constructor) ?_
  refine Fin.mk (Rsl.of2 rfl (.tmp rfl) (.cell ⟨Tryz.isAgg259, Tryz.sizeOf259⟩ rfl (by repeat constructor) (by repeat constructor))) ⟨?_, rfl⟩ (by repeat constructor) (by repeat constructor)
  rw [hfin]; rfl

def cutSF : Nat → List Bnd → List (List Bnd)
  | 0, _ => []
  | _ + 1, [] => []
  | k + 1, b :: bs => (b :: bs).take (firstM (b :: bs)).1 :: cutSF k ((b :: bs).drop (firstM (b :: bs)).1)
def cutS (l : List Bnd) : List (List Bnd) := cutSF l.length l
theorem cutSF_enough : ∀ (k j : Nat) (l : List Bnd), l.length ≤ k → l.length ≤ j → cutSF k l = cutSF j l
  | 0, j, l, h, _ => by
    have : l = [] := List.eq_nil_of_length_eq_zero (by omega)
    subst this; cases j <;> rfl
  | k + 1, j, [], _, _ => by cases j <;> rfl
  | k + 1, 0, b :: bs, _, h => by simp at h
  | k + 1, j + 1, b :: bs, h, h' => by
    have hp := firstM_pos (l := b :: bs) (by simp)
    simp only [cutSF]
    rw [cutSF_enough k j _ (by simp at *; omega) (by simp at *; omega)]
theorem cutS_cons {l : List Bnd} (h : 0 < l.length) : cutS l = l.take (firstM l).1 :: cutS (l.drop (firstM l).1) := by
 have hp := firstM_pos h
 cases l with
 | nil => simp at h
 | cons b bs =>
  show cutSF (bs.length + 1) (b :: bs) = _
  simp only [cutSF]
  rw [show cutS ((b :: bs).drop (firstM (b :: bs)).1) = cutSF bs.length _ from cutSF_enough _ _ _ (Nat.le_refl _) (by simp; omega)]
theorem lens_cons {α : Type} (x : List α) (xs : List (List α)) : lens (x :: xs) = x.length :: lens xs := rfl
theorem bnds_drop {l : List Bnd} (h : BndsOk l) (n : Nat) : BndsOk (l.drop n) := fun b hb => h b (List.mem_of_mem_drop hb)
theorem c_sCut1 (n : Int) (d : Door) : FnV Tryz.prog 182 #[.int .i64 n, .agg (encD d).toArray] [] (.int .i64 n) := by
 refine FnC.go (m := 6) Tryz.func182 Tryz.ntmps182 rfl (Nat.le_of_ble_eq_true rfl) (fun Lf => ?_)
 refine Wr ?_
 refine OW.box (Wn.plain rfl) rfl rfl (by constructor) (fun b1 => ?_)
 refine Oy rfl (Yl.assign rfl) ?_
 refine OW.nil ?_
 refine Wr ?_
 refine Oy rfl (Yl.move rfl) ?_
 refine Oy rfl (Yl.assign rfl) ?_
 refine OW.nil ?_
 refine W.ret ?_
 refine Fin.mk (Rsl.one rfl rfl) ⟨?_, rfl⟩ (by repeat constructor) (by repeat constructor)
 rfl
theorem c_sparts (l : List Bnd) (a : Option Addr) (c : Nat) (hl : bandsM l = true) : FnC Tryz.prog 181 #[.slice a l.length c, .func (.func 182) #[] #[]] [rowI 3 encB l a c] (RetRowE 1 encN (lens (cutS l))) := by
 refine FnC.go (m := 38) Tryz.func181 Tryz.ntmps181 rfl (Nat.le_of_ble_eq_true rfl) (fun Lf => ?_)
 have hlen := bandsM_len hl
 have hok := bnds_ok hl
 refine Wr ?_
 refine Oy rfl (Yl.assign rfl) ?_
 refine Oy rfl (Yl.assign rfl) ?_
 refine OW.nil ?_
 refine W.seq ?_
 refine Wr ?_
 refine Oy rfl (Yl.move rfl) ?_
 refine OW.callv (Wn.plain rfl) rfl Tryz.call183 rfl ((c_pCheck l _ _).cast (v' := .int .i64 0) (by simp [hl])) (by repeat constructor) ?_
 refine Oy rfl (Yl.assign rfl) ?_
 refine OW.nil ?_
 refine Wr ?_
 refine Oy rfl (Yl.move rfl) ?_
 refine Oy rfl (Yl.neq rfl rfl) ?_
 refine OW.nil ?_
 refine W.cond_f1 rfl (by decide) ?_
 refine W.skip ?_
 refine Wr ?_
 refine Oy rfl (Yl.assign rfl) ?_
 refine OW.nil ?_
 refine W.seq ?_
 refine W.block ?_
 refine W.ent (Ent.new_arr 3 1) ?_
 refine W.loopS (X := (List Bnd) × (Option Addr) × (Nat) × (List Nat) × (Option Addr) × (Nat)) (fun (x : (List Bnd) × (Option Addr) × (Nat) × (List Nat) × (Option Addr) × (Nat)) => match x with | (r, ra, rc, ys, oa, oc) => (ys ++ lens (cutS r) = lens (cutS l) ∧ BndsOk r ∧ ys.length + r.length ≤ l.length : Prop)) (fun (x : (List Bnd) × (Option Addr) × (Nat) × (List Nat) × (Option Addr) × (Nat)) => match x with | (r, ra, rc, ys, oa, oc) => ([(0, .slice ra r.length rc), (7, .slice oa ys.length oc)] : Env)) (fun (x : (List Bnd) × (Option Addr) × (Nat) × (List Nat) × (Option Addr) × (Nat)) => match x with | (r, ra, rc, ys, oa, oc) => ([rowI 3 encB r ra rc, rowR 3 1 encN ys oa oc] : List Res)) (fun (x : (List Bnd) × (Option Addr) × (Nat) × (List Nat) × (Option Addr) × (Nat)) => match x with | (r, ra, rc, ys, oa, oc) => (r.length : Nat)) (l, a, c, [], none, 0) [(1, _), (4, _), (5, _)] (by exact ⟨rfl, hok, by simp⟩) (Le.cons rfl (Le.cons rfl (Le.cons rfl (Le.cons rfl (Le.cons rfl (Le.nil _)))))) (by repeat constructor) ?_
 rintro ⟨r, ra, rc, ys, oa, oc⟩ hinv
 show W _ _ _ _ _ _ ([(0, .slice ra r.length rc), (7, .slice oa ys.length oc)] ++ _) _ ([rowI 3 encB r ra rc, rowR 3 1 encN ys oa oc] ++ _)
 obtain ⟨i1, i2, i3⟩ := hinv
 refine W.seq ?_
 refine Wr ?_
 refine Oy rfl (Yl.move rfl) ?_
 refine Oy rfl (Yl.len ⟨Tryz.underlying38, Tryz.sizeOf42⟩ rfl) ?_
 refine Oy rfl (Yl.gtr rfl rfl) ?_
 refine OW.nil ?_
 refine W.cond rfl (fun hq1 => ?_) (fun hq1 => ?_)
 ·have hq1d := of_decide_eq_true hq1
  have hpos := firstM_pos (l := r) (by omega)
  have hle := firstM_le r
  have hcc := cutS_cons (l := r) (by omega)
  refine W.skip ?_
  refine W.block ?_
  refine Wr ?_
  refine Oy rfl (Yl.move rfl) ?_
  refine OW.callv (Wn.plain rfl) rfl Tryz.call238 rfl (c_first r _ _ (by omega) i2) (by repeat constructor) ?_
  refine Oy rfl (Yl.move rfl) ?_
  refine Oy rfl (Yl.extract rfl (by repeat constructor)) ?_
  refine Oy rfl (Yl.extract rfl (by repeat constructor)) ?_
  refine OW.alloc (Wn.plain rfl) rfl Tryz.zeroValue259 (by constructor) (fun b1 => ?_)
  refine Oy rfl (Yl.assign rfl) ?_
  refine OW.store (Wn.plain rfl) Tryz.sizeOf259 rfl rfl (by constructor) (by repeat constructor) rfl (by repeat constructor) (by repeat constructor) ?_
  refine OW.nil ?_
  refine Wr ?_
  refine Oy rfl (Yl.move rfl) ?_
  refine Oy rfl (Yl.move rfl) ?_
  refine Oy rfl (Yl.move rfl) ?_
  refine Oy rfl (Yl.load ⟨Tryz.isAgg259, Tryz.sizeOf259⟩ rfl (by repeat constructor) (by repeat constructor)) ?_
  refine OW.call (Wn.plain rfl) rfl rfl rfl (FnC.triC Tryz.call182 (c_sCut1 _ (firstM r).2)) (by repeat constructor) ?_
  rintro _ _ ⟨rfl, rfl⟩
  refine OW.lit (is := [0]) (xs := [.tmp 27]) (Wn.plain rfl) rfl rw_70 rfl rfl rfl (by decide) (by repeat constructor) (fun b2 => ?_)
  refine OW.push  (Wn.plain rfl) rfl rw_70 rfl rfl (by repeat constructor) ⟨_, by repeat constructor⟩ (by rfl) (by rfl) (by repeat constructor) (by omega) (by omega) (fun a1 c1 => ?_)
  refine Oy rfl (Yl.assign rfl) ?_
  refine OW.nil ?_
  refine W.region ?_
  refine Oy rfl (Yl.move rfl) ?_
  refine Oy rfl (Yl.move rfl) ?_
  refine Oy rfl (Yl.move rfl) ?_
  refine Oy rfl (Yl.len ⟨Tryz.underlying38, Tryz.sizeOf42⟩ rfl) ?_
  refine Oy rfl (Yl.move rfl) ?_
  refine Oy rfl (Yl.len ⟨Tryz.underlying38, Tryz.sizeOf42⟩ rfl) ?_
  refine OW.cutM (l := (firstM r).1) (h := r.length) (q := r.length) (r.drop (firstM r).1) (Wn.plain rfl) rfl ⟨Tryz.underlying38, Tryz.sizeOf42⟩ rfl (.some rfl (rfl)) (.some rfl (rfl)) (.some rfl (rfl)) rfl (by repeat constructor) (by rw [List.take_of_length_le (by simp)]) (by omega) (by omega) (by omega) (by omega) (fun a2 c2 => ?_)
  refine Oy rfl (Yl.assign rfl) ?_
  refine OW.nil ?_
  refine ⟨(r.drop (firstM r).1, _, _, ys ++ [(firstM r).1], _, _), _, ?_, (Le.cons rfl (Le.cons rfl (Le.cons rfl (Le.cons rfl (Le.cons rfl (Le.nil _)))))), rfl, by repeat constructor, by repeat constructor, by simp; omega⟩
  exact ⟨by rw [← i1, hcc, lens_cons]; simp; omega, bnds_drop i2 _, by simp; omega⟩
 ·have hq1d := of_decide_eq_false hq1
  have hr0 : r = [] := List.eq_nil_of_length_eq_zero (by omega)
  subst hr0
  rw [show lens (cutS []) = [] from rfl, List.append_nil] at i1
  refine W.exit ?_
  refine Wr ?_
  refine Oy rfl (Yl.move rfl) ?_
  refine Oy rfl (Yl.assign rfl) ?_
  refine Oy rfl (Yl.assign rfl) ?_
  refine OW.nil ?_
  refine W.ret ?_
  rw [← i1]
  refine Fin.ent (Ent.sealP (f := encN) (E := 3) (sz := 1) (by repeat constructor) (fun _ => rfl)) ?_
  exact Fin.mk (Rsl.two rfl rfl rfl) ⟨_, _, rfl, rfl⟩ (by repeat constructor) (by repeat constructor)
theorem c_sCut (l : List Bnd) (a : Option Addr) (c : Nat) (hl : bandsM l = true) : FnC Tryz.prog 117 #[.slice a l.length c] [rowI 3 encB l a c] (RetRowE 1 encN (lens (cutS l))) := by
 refine FnC.go (m := 8) Tryz.func117 Tryz.ntmps117 rfl (Nat.le_of_ble_eq_true rfl) (fun Lf => ?_)
 refine Wr ?_
 refine Oy rfl (Yl.assign rfl) ?_
 refine Oy rfl (Yl.assign rfl) ?_
 refine OW.nil ?_
 refine Wr ?_
 refine Oy rfl (Yl.move rfl) ?_
 refine OW.call (Wn.plain rfl) rfl rfl rfl (FnC.tri0 Tryz.call181 (c_sparts l a c hl)) (by repeat constructor) ?_
 rintro _ _ ⟨ra, rc, rfl, rfl⟩
 refine Oy rfl (Yl.extract rfl (by repeat constructor)) ?_
 refine Oy rfl (Yl.extract rfl (by repeat constructor)) ?_
 refine Oy rfl (Yl.assign rfl) ?_
 refine Oy rfl (Yl.assign rfl) ?_
 refine OW.nil ?_
 refine W.ret ?_
 exact Fin.mk (Rsl.two rfl rfl rfl) ⟨_, _, rfl, rfl⟩ (by repeat constructor) (by repeat constructor)

def wholeF (n : Int) (o : Door) (b : Bool) : List (Door × Bool) → Door × Bool
  | [] => (o, b)
  | x :: rest => if x.2 = false ∧ x.1.many = n then (x.1, x.2) else wholeF n x.1 x.2 rest
def wholeM (l : List Bnd) : Door × Bool := wholeF l.length door0 false (doorsM door0 l)
theorem wholeF_s {n : Int} {o : Door} {b : Bool} {x : Door × Bool} {r : List (Door × Bool)} (h : ¬ (x.2 = false ∧ x.1.many = n)) : wholeF n o b (x :: r) = wholeF n x.1 x.2 r := by simp only [wholeF, if_neg h]
theorem wholeF_e {n : Int} {o : Door} {b : Bool} {x : Door × Bool} {r : List (Door × Bool)} (h : x.2 = false ∧ x.1.many = n) : wholeF n o b (x :: r) = (x.1, x.2) := by simp only [wholeF, if_pos h]

theorem c_whole (l : List Bnd) (a : Option Addr) (c : Nat) (hl : l.length ≤ 4000) (hok : BndsOk l) : FnV Tryz.prog 184 #[.slice a l.length c] [rowI 3 encB l a c] (.tuple #[.agg (encD (wholeM l).1).toArray, .bool (wholeM l).2]) := by
 refine FnC.go (m := 25) Tryz.func184 Tryz.ntmps184 rfl (Nat.le_of_ble_eq_true rfl) (fun Lf => ?_)
 refine Wr ?_
 refine OW.box (Wn.plain rfl) rfl rfl (by constructor) (fun b1 => ?_)
 refine OW.alloc (Wn.plain rfl) rfl Tryz.zeroValue259 (by constructor) (fun b2 => ?_)
 refine Oy rfl (Yl.assign rfl) ?_
 refine OW.nil ?_
 refine W.scope ?_
 refine Wr ?_
 refine OW.alloc (Wn.plain rfl) rfl Tryz.zeroValue259 (by constructor) (fun b3 => ?_)
 refine OW.nil ?_
 refine Wr ?_
 refine OW.alloc (Wn.plain rfl) rfl Tryz.zeroValue4 (by constructor) (fun b4 => ?_)
 refine OW.store (Wn.plain rfl) Tryz.sizeOf4 rfl rfl (by constructor) (by repeat constructor) rfl (by repeat constructor) (by repeat constructor) ?_
 refine OW.nil ?_
 refine W.seq ?_
 refine W.label ?_
 refine W.seq ?_
 refine Wr ?_
 refine Oy rfl (Yl.load1 Tryz.isAgg38 rfl (by repeat constructor) (by repeat constructor)) ?_
 refine OW.call (Wn.plain rfl) rfl rfl rfl (FnC.tri0 Tryz.call240 (c_doors _ _ _)) (by repeat constructor) ?_
 rintro _ _ ⟨bp, rfl, rfl⟩
 refine OW.nil ?_
 refine W.block ?_
 refine W.rangeF (S := (Door) × (Bool)) (fun (k : Nat) (x : (Door) × (Bool)) => match x with | (d, o) => (wholeF l.length door0 false (doorsM door0 l) = wholeF l.length d o ((doorsM door0 l).drop k) : Prop)) (fun  (x : (Door) × (Bool)) => match x with | (d, o) => ([.cell b3 (encD d) 259, .cell b4 [.bool o] 4, .cell b1 [.slice a l.length c] 38] : List Res)) (fun (ex : Exit) (x : (Door) × (Bool)) => match x with | (d, o) => (ex = .exit 0 ∧ wholeF l.length door0 false (doorsM door0 l) = (d, o) : Prop)) (fun  (x : (Door) × (Bool)) => match x with | (d, o) => ([.cell b3 (encD d) 259, .cell b4 [.bool o] 4, .cell b1 [.slice a l.length c] 38] : List Res)) (door0, false) rfl Tryz.call281 (i_doors l a c _ hl hok) (by repeat constructor) (by rfl) rfl (by rintro _ _ _ ⟨rfl, _⟩; rfl) ?_ ?_ ?_
 ·rintro lp k x ⟨d, o⟩ vs Lx hx ⟨rfl, rfl⟩ hI Lf
  show W _ _ _ _ _ _ _ [] ([] ++ [.cell b3 (encD d) 259, .cell b4 [.bool o] 4, .cell b1 [.slice a l.length c] 38] ++ Lf)
  rw [drop_of_at hx] at hI
  refine Wr ?_
  refine OW.alloc (Wn.plain rfl) rfl Tryz.zeroValue259 (by constructor) (fun b5 => ?_)
  refine OW.store (Wn.plain rfl) Tryz.sizeOf259 rfl rfl (by constructor) (by repeat constructor) rfl (by repeat constructor) (by repeat constructor) ?_
  refine OW.nil ?_
  refine W.region ?_
  refine Oy rfl (Yl.assign rfl) ?_
  refine OW.nil ?_
  refine ⟨rfl, _, by repeat constructor, fun Lf => ?_⟩
  refine W.block ?_
  refine Wr ?_
  refine Oy rfl (Yl.load ⟨Tryz.isAgg259, Tryz.sizeOf259⟩ rfl (by repeat constructor) (by repeat constructor)) ?_
  refine Oy rfl (Yl.move rfl) ?_
  refine OW.store (Wn.plain rfl) Tryz.sizeOf259 rfl rfl (by constructor) (by repeat constructor) rfl (by repeat constructor) (by repeat constructor) ?_
  refine OW.store (Wn.plain rfl) Tryz.sizeOf4 rfl rfl (by constructor) (by repeat constructor) rfl (by repeat constructor) (by repeat constructor) ?_
  refine OW.nil ?_
  refine Wr ?_
  refine Oy rfl (Yl.move rfl) ?_
  refine Oy rfl (Yl.not rfl) ?_
  refine Oy rfl (Yl.move rfl) ?_
  refine OW.split (t := 16) rfl (fun hq1 => ?_) (fun hq1 => ?_)
  ·have hq1n := not_t hq1
   refine OW.yl (Wn.run rfl rfl rfl hq1) rfl (Yl.fieldL 6 (fa_259_2) rfl rfl) ?_
   refine OW.yl (Wn.run rfl rfl rfl hq1) rfl (Yl.load1 Tryz.isAgg3 rfl (by repeat constructor) (by repeat constructor)) ?_
   refine OW.yl (Wn.run rfl rfl rfl hq1) rfl (Yl.load1 Tryz.isAgg38 rfl (by repeat constructor) (by repeat constructor)) ?_
   refine OW.yl (Wn.run rfl rfl rfl hq1) rfl (Yl.len ⟨Tryz.underlying38, Tryz.sizeOf42⟩ rfl) ?_
   refine OW.yl (Wn.run rfl rfl rfl hq1) rfl (Yl.eql rfl rfl) ?_
   refine Oy rfl (Yl.pick_true rfl hq1 rfl) ?_
   refine OW.nil ?_
   refine W.cond rfl (fun hq2 => ?_) (fun hq2 => ?_)
   ·have hq2d := of_decide_eq_true hq2
    refine W.exit ?_
    refine ⟨(x.1, x.2), ?_, EntL (by repeat constructor) (by repeat constructor)⟩
    exact ⟨rfl, by rw [hI, wholeF_e (by simp_all)]⟩
   ·have hq2d := of_decide_eq_false hq2
    refine W.skip ?_
    refine ⟨(x.1, x.2), ?_, EntL (by repeat constructor) (by repeat constructor)⟩
    rw [hI, wholeF_s (by simp_all)]
  ·have hq1n := not_f hq1
   refine OW.not (Wn.not rfl rfl rfl hq1) rfl ?_
   refine OW.not (Wn.not rfl rfl rfl hq1) rfl ?_
   refine OW.not (Wn.not rfl rfl rfl hq1) rfl ?_
   refine OW.not (Wn.not rfl rfl rfl hq1) rfl ?_
   refine OW.not (Wn.not rfl rfl rfl hq1) rfl ?_
   refine Oy rfl (Yl.pick_false rfl hq1 rfl) ?_
   refine OW.nil ?_
   refine W.cond_false rfl ?_
   refine W.skip ?_
   refine ⟨(x.1, x.2), ?_, EntL (by repeat constructor) (by repeat constructor)⟩
   rw [hI, wholeF_s (by simp_all)]
 ·rintro D1 ⟨d, o⟩ hI
  have hfin : wholeM l = (d, o) := by unfold wholeM; rw [hI, List.drop_length]; rfl
  refine W.seq ?_
  refine W.draw mixed ?_
  refine Al (i := 0) rfl (Wn.plain rfl) rfl (by repeat constructor) (Yl.load ⟨Tryz.isAgg259, Tryz.sizeOf259⟩ rfl .head (by repeat constructor)) ?_
  refine Al (i := 1) rfl (Wn.plain rfl) rfl (by repeat constructor) (Yl.load1 Tryz.isAgg4 rfl .head (by repeat constructor)) ?_
  refine AW.step (i := 2) rfl (by kernel_rfl) (Wn.plain rfl) rfl (Ex.store Tryz.sizeOf259 rfl rfl (by constructor) (by repeat constructor) rfl (by repeat constructor) (by repeat constructor)) (.keep (by kernel_rfl) (.drop (by kernel_rfl) .nil)) ?_
  rintro _ _ rfl; refine ⟨by repeat constructor, ?_⟩
  refine Aq (i := 3) rfl (Wn.plain rfl) rfl (fun _ => Yl.assign rfl) ?_
  refine AW.done (by kernel_rfl) ?_
  refine W.ret ?_
  refine Fin.marks [D1] rfl (by repeat constructor) ?_
  refine Fin.mk (Rsl.of2 rfl (.cell ⟨Tryz.isAgg259, Tryz.sizeOf259⟩ rfl (by repeat constructor) (by repeat constructor)) (.tmp rfl)) ⟨?_, rfl⟩ (by repeat constructor) (by repeat constructor)
  rw [hfin]; rfl
 ·rintro D1 ex ⟨d, o⟩ ⟨rfl, hI⟩
  have hfin : wholeM l = (d, o) := hI
  refine W.seq ?_
  refine W.draw mixed ?_
  refine Al (i := 0) rfl (Wn.plain rfl) rfl (by repeat constructor) (Yl.load ⟨Tryz.isAgg259, Tryz.sizeOf259⟩ rfl .head (by repeat constructor)) ?_
  refine Al (i := 1) rfl (Wn.plain rfl) rfl (by repeat constructor) (Yl.load1 Tryz.isAgg4 rfl .head (by repeat constructor)) ?_
  refine AW.step (i := 2) rfl (by kernel_rfl) (Wn.plain rfl) rfl (Ex.store Tryz.sizeOf259 rfl rfl (by constructor) (by repeat constructor) rfl (by repeat constructor) (by repeat constructor)) (.keep (by kernel_rfl) (.drop (by kernel_rfl) .nil)) ?_
  rintro _ _ rfl; refine ⟨by repeat constructor, ?_⟩
  refine Aq (i := 3) rfl (Wn.plain rfl) rfl (fun _ => Yl.assign rfl) ?_
  refine AW.done (by kernel_rfl) ?_
  refine W.ret ?_
  refine Fin.marks [D1] rfl (by repeat constructor) ?_
  refine Fin.mk (Rsl.of2 rfl (.cell ⟨Tryz.isAgg259, Tryz.sizeOf259⟩ rfl (by repeat constructor) (by repeat constructor)) (.tmp rfl)) ⟨?_, rfl⟩ (by repeat constructor) (by repeat constructor)
  rw [hfin]; rfl

theorem slopeM_i {s : Slo} (h : 1 ≤ s.D ∧ s.D ≤ 281474976710656 ∧ -4611688217450643456 ≤ s.N ∧ s.N ≤ 4611688217450643456) : slopeM s = true := decide_eq_true h
theorem slopeM_low {s : Slo} (h : slopeM s = true) : slopeM (lowM s) = true := by
 have h1 := slopeM_t h
 have hl := lowM_in s (by omega) (by omega) (by omega)
 have hp := gcd_pos (a := s.N) (b := s.D) (by omega)
 refine slopeM_i ⟨by omega, by omega, ?_⟩
 have h4 : ((lowM s).N).natAbs ≤ s.N.natAbs := by
  have e := Int.mul_ediv_cancel' (Int.gcd_dvd_left s.N s.D)
  show (s.N / (Int.gcd s.N s.D : Int)).natAbs ≤ _
  conv => rhs; rw [← e]
  rw [Int.natAbs_mul]
  exact Nat.le_mul_of_pos_left _ (by omega)
 omega
theorem slopeM_near {a b : Slo} (ha : slopeM a = true) (hb : slopeM b = true) : slopeM (nearM a b) = true := by
 unfold nearM
 split
 ·exact slopeM_low ha
 ·split
  ·exact slopeM_low hb
  ·decide
def slopeOfD (d : Door) : Slo := if 1 < d.many then nearM d.e0 d.e1 else ⟨0, 1⟩
def lineD (d : Door) : Lin := ⟨d.v, 0, (lowM (slopeOfD d)).N, (lowM (slopeOfD d)).D⟩
/-- what a door has, of which a line is asked -/
def DoorFit (d : Door) : Prop := backM d.v = true ∧ (1 < d.many → slopeM d.e0 = true ∧ slopeM d.e1 = true ∧ cmpS d.e0 d.e1 ≤ 0)
theorem slopeOf_ok {d : Door} (h : DoorFit d) : slopeM (slopeOfD d) = true := by
 unfold slopeOfD
 split
 ·rename_i hm; exact slopeM_near (h.2 hm).1 (h.2 hm).2.1
 ·decide
theorem slopeOf_1 {d : Door} (h : 1 < d.many) : slopeOfD d = nearM d.e0 d.e1 := by simp [slopeOfD, h]
theorem slopeOf_0 {d : Door} (h : ¬ 1 < d.many) : slopeOfD d = ⟨0, 1⟩ := by simp [slopeOfD, h]

theorem c_dline (p : Nat) (d : Door) (h : DoorFit d) : FnC Tryz.prog 185 #[.pointer (some ⟨p, 0, none⟩)] [.cell p (encD d) 259] (fun v L' => v = .agg (encL (lineD d)).toArray ∧ L' = [.cell p (encD d) 259]) := by
 refine FnC.go (m := 37) Tryz.func185 Tryz.ntmps185 rfl (Nat.le_of_ble_eq_true rfl) (fun Lf => ?_)
 have hv := h.1
 have hso := slopeOf_ok h
 refine Wr ?_
 refine OW.alloc (Wn.plain rfl) rfl Tryz.zeroValue37 (by constructor) (fun b1 => ?_)
 refine OW.nil ?_
 refine Wr ?_
 refine Oy rfl (Yl.build (is := [1]) (xs := [.const (.int .i64 1)]) st_146 rfl rfl (by repeat constructor)) ?_
 refine OW.alloc (Wn.plain rfl) rfl Tryz.zeroValue146 (by constructor) (fun b2 => ?_)
 refine OW.store (Wn.plain rfl) Tryz.sizeOf146 rfl rfl (by constructor) (by repeat constructor) rfl (by repeat constructor) (by repeat constructor) ?_
 refine OW.nil ?_
 refine W.seq ?_
 refine Wr ?_
 refine Oy rfl (Yl.move rfl) ?_
 refine Oy rfl (Yl.nilCheck rfl) ?_
 refine Oy rfl (Yl.fieldL 6 (fa_259_2) rfl rfl) ?_
 refine Oy rfl (Yl.load1 Tryz.isAgg3 rfl (by repeat constructor) (by repeat constructor)) ?_
 refine Oy rfl (Yl.gtr rfl rfl) ?_
 refine OW.nil ?_
 refine W.cond rfl (fun hq1 => ?_) (fun hq1 => ?_)
 ·have hq1d := of_decide_eq_true hq1
  obtain ⟨k1, k2, k3⟩ := h.2 hq1d
  rw [slopeOf_1 hq1d] at hso
  refine W.draw mixed ?_
  refine Aq (i := 0) rfl (Wn.plain rfl) rfl (fun _ => Yl.move rfl) ?_
  refine Aq (i := 1) rfl (Wn.plain rfl) rfl (fun _ => Yl.nilCheck rfl) ?_
  refine Aq (i := 2) rfl (Wn.plain rfl) rfl (fun _ => Yl.fieldL 2 (fa_259_1) rfl rfl) ?_
  refine Aq (i := 3) rfl (Wn.plain rfl) rfl (fun _ => Yl.indexA (o' := 2) 0 ⟨Tryz.underlying257, Tryz.sizeOf146⟩ rfl rfl rfl (by decide) rfl) ?_
  refine Al (i := 4) rfl (Wn.plain rfl) rfl (by repeat constructor) (Yl.load ⟨Tryz.isAgg146, Tryz.sizeOf146⟩ rfl .head (by repeat constructor)) ?_
  refine Aq (i := 5) rfl (Wn.plain rfl) rfl (fun _ => Yl.move rfl) ?_
  refine Aq (i := 6) rfl (Wn.plain rfl) rfl (fun _ => Yl.nilCheck rfl) ?_
  refine Aq (i := 7) rfl (Wn.plain rfl) rfl (fun _ => Yl.fieldL 2 (fa_259_1) rfl rfl) ?_
  refine Aq (i := 8) rfl (Wn.plain rfl) rfl (fun _ => Yl.indexA (o' := 4) 1 ⟨Tryz.underlying257, Tryz.sizeOf146⟩ rfl rfl rfl (by decide) rfl) ?_
  refine Al (i := 9) rfl (Wn.plain rfl) rfl (by repeat constructor) (Yl.load ⟨Tryz.isAgg146, Tryz.sizeOf146⟩ rfl .head (by repeat constructor)) ?_
  refine AW.step (i := 10) rfl (by kernel_rfl) (Wn.plain rfl) rfl (Ex.call rfl rfl rfl (FnC.tri0 Tryz.call191 (c_Nearest d.e0 d.e1 k1 k2 k3)) (by repeat constructor)) (.drop (by kernel_rfl) (.drop (by kernel_rfl) .nil)) ?_
  rintro _ _ ⟨_, ⟨rfl, rfl⟩, rfl⟩; refine ⟨by repeat constructor, ?_⟩
  refine Aq (i := 11) rfl (Wn.plain rfl) rfl (fun _ => Yl.move rfl) ?_
  refine Aq (i := 12) rfl (Wn.plain rfl) rfl (fun _ => Yl.extract rfl (by repeat constructor)) ?_
  refine Aq (i := 13) rfl (Wn.plain rfl) rfl (fun _ => Yl.extract rfl (by repeat constructor)) ?_
  refine AW.step (i := 14) rfl (by kernel_rfl) (Wn.plain rfl) rfl (Ex.store Tryz.sizeOf146 rfl rfl (by constructor) (by repeat constructor) rfl (by repeat constructor) (by repeat constructor)) .nil ?_
  rintro _ _ rfl; refine ⟨by repeat constructor, ?_⟩
  refine AW.done (by kernel_rfl) ?_
  refine W.seqS (X := (Nat)) (R0 := []) (fun (b9 : (Nat)) => (True : Prop)) (fun (b9 : (Nat)) => ([(4, .pointer (some ⟨b9, 0, none⟩))] : Env)) (fun (b9 : (Nat)) => ([.cell b9 (encL ⟨d.v, 0, (lowM (nearM d.e0 d.e1)).N, (lowM (nearM d.e0 d.e1)).D⟩) 37] : List Res)) [(2, _)] (Le.cons rfl (Le.nil _)) (by repeat constructor) ?_ ?_
  ·refine W.draw mixed ?_
   refine Aq (i := 0) rfl (Wn.plain rfl) rfl (fun _ => Yl.move rfl) ?_
   refine Aq (i := 1) rfl (Wn.plain rfl) rfl (fun _ => Yl.nilCheck rfl) ?_
   refine Aq (i := 2) rfl (Wn.plain rfl) rfl (fun _ => Yl.fieldL 0 (fa_259_0) rfl rfl) ?_
   refine Aq (i := 3) rfl (Wn.plain rfl) rfl (fun _ => Yl.fieldL 1 (fa_256_1) rfl rfl) ?_
   refine Al (i := 4) rfl (Wn.plain rfl) rfl (by repeat constructor) (Yl.load1 Tryz.isAgg2 rfl .head (by repeat constructor)) ?_
   refine Al (i := 5) rfl (Wn.plain rfl) rfl (by repeat constructor) (Yl.load ⟨Tryz.isAgg146, Tryz.sizeOf146⟩ rfl .head (by repeat constructor)) ?_
   refine AW.two 6 10 (by kernel_rfl) ?_ ?_
   ·refine AWi.step (i := 6) rfl (Wn.plain rfl) rfl (Ex.call rfl rfl rfl (FnC.tri0 Tryz.call241 (c_lOf d.v (nearM d.e0 d.e1) hv hso)) (by repeat constructor)) (.drop (by kernel_rfl) (.drop (by kernel_rfl) .nil)) ?_
    rintro _ _ ⟨_, ⟨rfl, rfl⟩, rfl⟩; refine ⟨by repeat constructor, ?_⟩
    refine Aq (i := 7) rfl (Wn.plain rfl) rfl (fun _ => Yl.move rfl) ?_
    refine Aq (i := 8) rfl (Wn.plain rfl) rfl (fun _ => Yl.extract rfl (by repeat constructor)) ?_
    refine Aq (i := 9) rfl (Wn.plain rfl) rfl (fun _ => Yl.extract rfl (by repeat constructor)) ?_
    refine AW.step (i := 10) rfl (by kernel_rfl) (Wn.plain rfl) rfl (Ex.alloc Tryz.zeroValue37 (by constructor)) .nil ?_
    rintro _ _ ⟨b3, rfl, rfl⟩; refine ⟨by repeat constructor, ?_⟩
    refine AW.step (i := 11) rfl (by kernel_rfl) (Wn.plain rfl) rfl (Ex.store Tryz.sizeOf37 rfl rfl (by constructor) (by repeat constructor) rfl (by repeat constructor) (by repeat constructor)) .nil ?_
    rintro _ _ rfl; refine ⟨by repeat constructor, ?_⟩
    refine Aq (i := 12) rfl (Wn.plain rfl) rfl (fun _ => Yl.assign rfl) ?_
    refine AW.done (by kernel_rfl) ?_
    refine ⟨_, _, ?_, (Le.cons rfl (Le.cons rfl (Le.nil _))), rfl, by repeat constructor, by repeat constructor⟩
    trivial
   ·refine AWi.step (i := 10) rfl (Wn.plain rfl) rfl (Ex.alloc Tryz.zeroValue37 (by constructor)) (.keep (by kernel_rfl) (.keep (by kernel_rfl) .nil)) ?_
    rintro _ _ ⟨b4, rfl, rfl⟩; refine ⟨by repeat constructor, ?_⟩
    refine AW.step (i := 6) rfl (by kernel_rfl) (Wn.plain rfl) rfl (Ex.call rfl rfl rfl (FnC.tri0 Tryz.call241 (c_lOf d.v (nearM d.e0 d.e1) hv hso)) (by repeat constructor)) (.drop (by kernel_rfl) (.drop (by kernel_rfl) .nil)) ?_
    rintro _ _ ⟨_, ⟨rfl, rfl⟩, rfl⟩; refine ⟨by repeat constructor, ?_⟩
    refine Aq (i := 7) rfl (Wn.plain rfl) rfl (fun _ => Yl.move rfl) ?_
    refine Aq (i := 8) rfl (Wn.plain rfl) rfl (fun _ => Yl.extract rfl (by repeat constructor)) ?_
    refine Aq (i := 9) rfl (Wn.plain rfl) rfl (fun _ => Yl.extract rfl (by repeat constructor)) ?_
    refine AW.step (i := 11) rfl (by kernel_rfl) (Wn.plain rfl) rfl (Ex.store Tryz.sizeOf37 rfl rfl (by constructor) (by repeat constructor) rfl (by repeat constructor) (by repeat constructor)) .nil ?_
    rintro _ _ rfl; refine ⟨by repeat constructor, ?_⟩
    refine Aq (i := 12) rfl (Wn.plain rfl) rfl (fun _ => Yl.assign rfl) ?_
    refine AW.done (by kernel_rfl) ?_
    refine ⟨_, _, ?_, (Le.cons rfl (Le.cons rfl (Le.nil _))), rfl, by repeat constructor, by repeat constructor⟩
    trivial
  ·rintro b9 hcut
   show W _ _ _ _ _ _ ([(4, .pointer (some ⟨b9, 0, none⟩))] ++ _) _ ([.cell b9 (encL ⟨d.v, 0, (lowM (nearM d.e0 d.e1)).N, (lowM (nearM d.e0 d.e1)).D⟩) 37] ++ _)
   refine Wr ?_
   refine Oy rfl (Yl.load ⟨Tryz.isAgg37, Tryz.sizeOf37⟩ rfl (by repeat constructor) (by repeat constructor)) ?_
   refine OW.store (Wn.plain rfl) Tryz.sizeOf37 rfl rfl (by constructor) (by repeat constructor) rfl (by repeat constructor) (by repeat constructor) ?_
   refine OW.nil ?_
   refine W.ret ?_
   refine Fin.mk (Rsl.of1 rfl (.cell ⟨Tryz.isAgg37, Tryz.sizeOf37⟩ rfl (by repeat constructor) (by repeat constructor))) ⟨?_, rfl⟩ (by repeat constructor) (by repeat constructor)
   unfold lineD; first | (rw [slopeOf_1 hq1d]; rfl) | (rw [slopeOf_0 hq1d]; rfl)
 ·have hq1d := of_decide_eq_false hq1
  rw [slopeOf_0 hq1d] at hso
  refine W.skip ?_
  refine W.seqS (X := (Nat)) (R0 := []) (fun (b9 : (Nat)) => (True : Prop)) (fun (b9 : (Nat)) => ([(4, .pointer (some ⟨b9, 0, none⟩))] : Env)) (fun (b9 : (Nat)) => ([.cell b9 (encL ⟨d.v, 0, (lowM ⟨0, 1⟩).N, (lowM ⟨0, 1⟩).D⟩) 37] : List Res)) [(2, _)] (Le.cons rfl (Le.nil _)) (by repeat constructor) ?_ ?_
  ·refine W.draw mixed ?_
   refine Aq (i := 0) rfl (Wn.plain rfl) rfl (fun _ => Yl.move rfl) ?_
   refine Aq (i := 1) rfl (Wn.plain rfl) rfl (fun _ => Yl.nilCheck rfl) ?_
   refine Aq (i := 2) rfl (Wn.plain rfl) rfl (fun _ => Yl.fieldL 0 (fa_259_0) rfl rfl) ?_
   refine Aq (i := 3) rfl (Wn.plain rfl) rfl (fun _ => Yl.fieldL 1 (fa_256_1) rfl rfl) ?_
   refine Al (i := 4) rfl (Wn.plain rfl) rfl (by repeat constructor) (Yl.load1 Tryz.isAgg2 rfl .head (by repeat constructor)) ?_
   refine Al (i := 5) rfl (Wn.plain rfl) rfl (by repeat constructor) (Yl.load ⟨Tryz.isAgg146, Tryz.sizeOf146⟩ rfl .head (by repeat constructor)) ?_
   refine AW.two 6 10 (by kernel_rfl) ?_ ?_
   ·refine AWi.step (i := 6) rfl (Wn.plain rfl) rfl (Ex.call rfl rfl rfl (FnC.tri0 Tryz.call241 (c_lOf d.v ⟨0, 1⟩ hv hso)) (by repeat constructor)) (.drop (by kernel_rfl) (.drop (by kernel_rfl) .nil)) ?_
    rintro _ _ ⟨_, ⟨rfl, rfl⟩, rfl⟩; refine ⟨by repeat constructor, ?_⟩
    refine Aq (i := 7) rfl (Wn.plain rfl) rfl (fun _ => Yl.move rfl) ?_
    refine Aq (i := 8) rfl (Wn.plain rfl) rfl (fun _ => Yl.extract rfl (by repeat constructor)) ?_
    refine Aq (i := 9) rfl (Wn.plain rfl) rfl (fun _ => Yl.extract rfl (by repeat constructor)) ?_
    refine AW.step (i := 10) rfl (by kernel_rfl) (Wn.plain rfl) rfl (Ex.alloc Tryz.zeroValue37 (by constructor)) .nil ?_
    rintro _ _ ⟨b5, rfl, rfl⟩; refine ⟨by repeat constructor, ?_⟩
    refine AW.step (i := 11) rfl (by kernel_rfl) (Wn.plain rfl) rfl (Ex.store Tryz.sizeOf37 rfl rfl (by constructor) (by repeat constructor) rfl (by repeat constructor) (by repeat constructor)) .nil ?_
    rintro _ _ rfl; refine ⟨by repeat constructor, ?_⟩
    refine Aq (i := 12) rfl (Wn.plain rfl) rfl (fun _ => Yl.assign rfl) ?_
    refine AW.done (by kernel_rfl) ?_
    refine ⟨_, _, ?_, (Le.cons rfl (Le.cons rfl (Le.nil _))), rfl, by repeat constructor, by repeat constructor⟩
    trivial
   ·refine AWi.step (i := 10) rfl (Wn.plain rfl) rfl (Ex.alloc Tryz.zeroValue37 (by constructor)) (.keep (by kernel_rfl) (.keep (by kernel_rfl) .nil)) ?_
    rintro _ _ ⟨b6, rfl, rfl⟩; refine ⟨by repeat constructor, ?_⟩
    refine AW.step (i := 6) rfl (by kernel_rfl) (Wn.plain rfl) rfl (Ex.call rfl rfl rfl (FnC.tri0 Tryz.call241 (c_lOf d.v ⟨0, 1⟩ hv hso)) (by repeat constructor)) (.drop (by kernel_rfl) (.drop (by kernel_rfl) .nil)) ?_
    rintro _ _ ⟨_, ⟨rfl, rfl⟩, rfl⟩; refine ⟨by repeat constructor, ?_⟩
    refine Aq (i := 7) rfl (Wn.plain rfl) rfl (fun _ => Yl.move rfl) ?_
    refine Aq (i := 8) rfl (Wn.plain rfl) rfl (fun _ => Yl.extract rfl (by repeat constructor)) ?_
    refine Aq (i := 9) rfl (Wn.plain rfl) rfl (fun _ => Yl.extract rfl (by repeat constructor)) ?_
    refine AW.step (i := 11) rfl (by kernel_rfl) (Wn.plain rfl) rfl (Ex.store Tryz.sizeOf37 rfl rfl (by constructor) (by repeat constructor) rfl (by repeat constructor) (by repeat constructor)) .nil ?_
    rintro _ _ rfl; refine ⟨by repeat constructor, ?_⟩
    refine Aq (i := 12) rfl (Wn.plain rfl) rfl (fun _ => Yl.assign rfl) ?_
    refine AW.done (by kernel_rfl) ?_
    refine ⟨_, _, ?_, (Le.cons rfl (Le.cons rfl (Le.nil _))), rfl, by repeat constructor, by repeat constructor⟩
    trivial
  ·rintro b9 hcut
   show W _ _ _ _ _ _ ([(4, .pointer (some ⟨b9, 0, none⟩))] ++ _) _ ([.cell b9 (encL ⟨d.v, 0, (lowM ⟨0, 1⟩).N, (lowM ⟨0, 1⟩).D⟩) 37] ++ _)
   refine Wr ?_
   refine Oy rfl (Yl.load ⟨Tryz.isAgg37, Tryz.sizeOf37⟩ rfl (by repeat constructor) (by repeat constructor)) ?_
   refine OW.store (Wn.plain rfl) Tryz.sizeOf37 rfl rfl (by constructor) (by repeat constructor) rfl (by repeat constructor) (by repeat constructor) ?_
   refine OW.nil ?_
   refine W.ret ?_
   refine Fin.mk (Rsl.of1 rfl (.cell ⟨Tryz.isAgg37, Tryz.sizeOf37⟩ rfl (by repeat constructor) (by repeat constructor))) ⟨?_, rfl⟩ (by repeat constructor) (by repeat constructor)
   unfold lineD; first | (rw [slopeOf_1 hq1d]; rfl) | (rw [slopeOf_0 hq1d]; rfl)

def DInv (d : Door) (last : Int) : Prop := DoorOk d ∧ (1 ≤ d.many → backM d.v = true ∧ d.t ≤ last) ∧ (1 < d.many → slopeM d.e0 = true ∧ slopeM d.e1 = true)
def PFit (x : Door × Bool) : Prop := backM x.1.v = true ∧ (1 < x.1.many → slopeM x.1.e0 = true ∧ slopeM x.1.e1 = true ∧ (x.2 = true → cmpS x.1.e0 x.1.e1 ≤ 0))
theorem backM_in {n : Int} (h1 : -2305844108725321728 ≤ n) (h2 : n ≤ 2305844108725321728) : backM n = true := decide_eq_true ⟨h1, h2⟩
theorem cmpS_self (a : Slo) : cmpS a a = 0 := by simp [cmpS, cmpI]
theorem slopeD_ok {d : Door} {b : Bnd} {v : Int} (hb : BndOk b) (h1 : -2305844108725321728 ≤ d.v ∧ d.v ≤ 2305844108725321728) (h0 : 0 ≤ d.t) (ht : d.t < b.T) (hv : -2305844108725321728 ≤ v ∧ v ≤ 2305844108725321728) : slopeM (slopeD d b v) = true := by
 unfold BndOk at hb
 have : slopeM ⟨v - d.v, b.T - d.t⟩ = true := slopeM_i ⟨by dsimp only; omega, by dsimp only; omega, by dsimp only; omega⟩
 unfold slopeD
 rw [if_pos this]
 exact slopeM_low this
theorem take_inv {d : Door} {b : Bnd} {last : Int} (h : DInv d last) (hm : d.many ≤ 4000) (hb : BndOk b) (hl : last < b.T) : DInv (takeD d b).1 b.T ∧ PFit (takeD d b) := by
 have hok := take_ok h.1 hm hb
 have hmid := mid_in hb
 obtain ⟨k1, k2, k3⟩ := h
 by_cases h0 : d.many + 1 = 1
 ·rw [takeD_1 h0] at hok ⊢
  have hbk := hb
  unfold BndOk at hbk
  have hv := backM_in (n := (b.Lo + b.Hi) / 2) (by omega) (by omega)
  exact ⟨⟨hok, fun _ => ⟨hv, Int.le_refl _⟩, fun h1 => by dsimp only at h1; omega⟩, hv, fun h1 => by dsimp only at h1; omega⟩
 ·have k1' := k1
  unfold DoorOk at k1'
  have hm1 : 1 ≤ d.many := by omega
  obtain ⟨hv, ht⟩ := k2 hm1
  have hbk := hb
  unfold BndOk at hbk
  have slo := slopeD_ok (v := b.Lo) hb k1'.2.1 k1'.1.1 (by omega) hbk.2.2.2.1
  have shi := slopeD_ok (v := b.Hi) hb k1'.2.1 k1'.1.1 (by omega) hbk.2.2.2.2
  have key := takeD_r (d := d) (b := b) _ _ h0 rfl rfl
  generalize hE0 : (if d.many + 1 = 2 ∨ 0 < cmpL (slopeD d b b.Lo) d.e0 then slopeD d b b.Lo else d.e0) = e0 at key
  generalize hE1 : (if d.many + 1 = 2 ∨ cmpL (slopeD d b b.Hi) d.e1 < 0 then slopeD d b b.Hi else d.e1) = e1 at key
  have s0 : slopeM e0 = true := by
   rw [← hE0]; split
   ·exact slo
   ·rename_i hn; exact (k3 (by omega)).1
  have s1 : slopeM e1 = true := by
   rw [← hE1]; split
   ·exact shi
   ·rename_i hn; exact (k3 (by omega)).2
  rw [key] at hok ⊢
  refine ⟨⟨hok, fun _ => ⟨hv, by dsimp only; omega⟩, fun _ => ⟨s0, s1⟩⟩, hv, fun _ => ⟨s0, s1, fun hx => ?_⟩⟩
  simp only [Bool.or_eq_true, decide_eq_true_eq] at hx
  rcases hx with hx | hx
  ·dsimp only; rw [hx, cmpS_self]; exact Int.le_refl _
  ·simp only [cmpL, s0, s1, Bool.and_self, if_true] at hx
   dsimp only; omega
theorem doors_fit : ∀ (l : List Bnd) (d : Door) (last : Int), DInv d last → d.many + l.length ≤ 4000 → chkB last l = true → BndsOk l → ∀ x ∈ doorsM d l, PFit x
  | [], _, _, _, _, _, _, x, hx => by cases hx
  | b :: bs, d, last, hd, hm, hc, hb, x, hx => by
    simp only [chkB, Bool.and_eq_true] at hc
    simp only [List.length_cons] at hm
    have hs := take_inv hd (by omega) (hb b List.mem_cons_self) (okB_t hc.1).1
    rcases List.mem_cons.1 hx with rfl | hx
    · exact hs.2
    · exact doors_fit bs _ b.T hs.1 (by rw [take_many]; omega) hc.2 (fun y hy => hb y (List.mem_cons_of_mem _ hy)) x hx
theorem wholeF_mem (n : Int) : ∀ (r : List (Door × Bool)) (o : Door) (b : Bool), wholeF n o b r = (o, b) ∨ wholeF n o b r ∈ r
  | [], o, b => .inl rfl
  | x :: r, o, b => by
    by_cases h : x.2 = false ∧ x.1.many = n
    · rw [wholeF_e h]; exact .inr List.mem_cons_self
    · rw [wholeF_s h]
      rcases wholeF_mem n r x.1 x.2 with h1 | h1
      · rw [h1]; exact .inr List.mem_cons_self
      · exact .inr (List.mem_cons_of_mem _ h1)
theorem dinv0 : DInv door0 (-1) := ⟨by unfold DoorOk door0; decide, fun h => by simp [door0] at h, fun h => by simp [door0] at h⟩
theorem whole_fit {l : List Bnd} (hl : bandsM l = true) (h : (wholeM l).2 = true) : DoorFit (wholeM l).1 := by
 have hlen := bandsM_len hl
 have hc : chkB (-1) l = true := by simp only [bandsM, Bool.and_eq_true] at hl; exact hl.2
 rcases wholeF_mem l.length (doorsM door0 l) door0 false with h1 | h1
 ·unfold wholeM at h; rw [h1] at h; cases h
 ·have := doors_fit l door0 (-1) dinv0 (by simp [door0]; omega) hc (bnds_ok hl) _ h1
  exact ⟨this.1, fun hm => ⟨(this.2 hm).1, (this.2 hm).2.1, (this.2 hm).2.2 h⟩⟩
def sfitL (l : List Bnd) : Lin := if (wholeM l).2 then lineD (wholeM l).1 else ⟨0, 0, 0, 0⟩
theorem sfitL_y {l : List Bnd} (h : (wholeM l).2 = true) : sfitL l = lineD (wholeM l).1 := by simp [sfitL, h]
theorem sfitL_n {l : List Bnd} (h : (wholeM l).2 = false) : sfitL l = ⟨0, 0, 0, 0⟩ := by simp [sfitL, h]

theorem c_sFit (l : List Bnd) (a : Option Addr) (c : Nat) (hl : bandsM l = true) : FnV Tryz.prog 118 #[.slice a l.length c] [rowI 3 encB l a c] (.tuple #[.agg (encL (sfitL l)).toArray, .int .i64 (if (wholeM l).2 then 0 else 4)]) := by
 refine FnC.go (m := 22) Tryz.func118 Tryz.ntmps118 rfl (Nat.le_of_ble_eq_true rfl) (fun Lf => ?_)
 have hlen := bandsM_len hl
 have hok := bnds_ok hl
 refine Wr ?_
 refine OW.alloc (Wn.plain rfl) rfl Tryz.zeroValue37 (by constructor) (fun b1 => ?_)
 refine Oy rfl (Yl.assign rfl) ?_
 refine OW.nil ?_
 refine W.seq ?_
 refine Wr ?_
 refine Oy rfl (Yl.move rfl) ?_
 refine OW.callv (Wn.plain rfl) rfl Tryz.call183 rfl ((c_pCheck l _ _).cast (v' := .int .i64 0) (by simp [hl])) (by repeat constructor) ?_
 refine Oy rfl (Yl.assign rfl) ?_
 refine OW.nil ?_
 refine Wr ?_
 refine Oy rfl (Yl.move rfl) ?_
 refine Oy rfl (Yl.neq rfl rfl) ?_
 refine OW.nil ?_
 refine W.cond_f1 rfl (by decide) ?_
 refine W.skip ?_
 refine Wr ?_
 refine Oy rfl (Yl.move rfl) ?_
 refine OW.callv (Wn.plain rfl) rfl Tryz.call184 rfl (c_whole _ _ _ (by omega) (by assumption)) (by repeat constructor) ?_
 refine Oy rfl (Yl.move rfl) ?_
 refine Oy rfl (Yl.extract rfl (by repeat constructor)) ?_
 refine Oy rfl (Yl.extract rfl (by repeat constructor)) ?_
 refine OW.alloc (Wn.plain rfl) rfl Tryz.zeroValue259 (by constructor) (fun b2 => ?_)
 refine OW.store (Wn.plain rfl) Tryz.sizeOf259 rfl rfl (by constructor) (by repeat constructor) rfl (by repeat constructor) (by repeat constructor) ?_
 refine Oy rfl (Yl.assign rfl) ?_
 refine OW.nil ?_
 refine W.seq ?_
 refine Wr ?_
 refine Oy rfl (Yl.move rfl) ?_
 refine Oy rfl (Yl.not rfl) ?_
 refine OW.nil ?_
 refine W.cond rfl (fun hq1 => ?_) (fun hq1 => ?_)
 ·have hq1n := not_t hq1
  rw [sfitL_n hq1n, hq1n]
  refine Wr ?_
  refine Oy rfl (Yl.build (is := []) (xs := []) st_37 rfl rfl (by repeat constructor)) ?_
  refine OW.store (Wn.plain rfl) Tryz.sizeOf37 rfl rfl (by constructor) (by repeat constructor) rfl (by repeat constructor) (by repeat constructor) ?_
  refine Oy rfl (Yl.assign rfl) ?_
  refine OW.nil ?_
  refine W.ret ?_
  refine Fin.mk (Rsl.of2 rfl (.cell ⟨Tryz.isAgg37, Tryz.sizeOf37⟩ rfl (by repeat constructor) (by repeat constructor)) (.tmp rfl)) ⟨?_, rfl⟩ (by repeat constructor) (by repeat constructor)
  rfl
 ·have hq1n := not_f hq1
  have hfit := whole_fit hl hq1n
  rw [sfitL_y hq1n, hq1n]
  refine W.skip ?_
  refine Wr ?_
  refine OW.call (Wn.plain rfl) rfl rfl rfl (FnC.tri0 Tryz.call185 (c_dline _ _ hfit)) (by repeat constructor) ?_
  rintro _ _ ⟨rfl, rfl⟩
  refine OW.store (Wn.plain rfl) Tryz.sizeOf37 rfl rfl (by constructor) (by repeat constructor) rfl (by repeat constructor) (by repeat constructor) ?_
  refine Oy rfl (Yl.assign rfl) ?_
  refine OW.nil ?_
  refine W.ret ?_
  refine Fin.mk (Rsl.of2 rfl (.cell ⟨Tryz.isAgg37, Tryz.sizeOf37⟩ rfl (by repeat constructor) (by repeat constructor)) (.tmp rfl)) ⟨?_, rfl⟩ (by repeat constructor) (by repeat constructor)
  rfl
end Go.Yb
