/-
  A part of the proof of windowLine_holds: see the text that holds it. No conditions of its own.
-/
import Derived.Test.YtbfhhinhjgdgpaaGreatDoorRuns2
import Derived.Test.YtbfhhinhjgdgpaaGreatDoorSlide
namespace Go.Yb
open Go Go.Proofs Go.RowKit

/-! seg: segments -/
structure Sg where
  Kind : Int
  Runs : List Rn
  Line : Lin
  Raw : List Int
  Err : Int
  deriving DecidableEq
/-- where its rows lie -/
structure SgA where
  ra : Option Addr
  rc : Nat
  wa : Option Addr
  wc : Nat
def encG (s : Sg) (x : SgA) : List Value := [.int .i64 s.Kind, .slice x.ra s.Runs.length x.rc, .int .i64 s.Line.A, .int .i64 s.Line.R, .int .i64 s.Line.N, .int .i64 s.Line.D, .slice x.wa s.Raw.length x.wc, .int .i64 s.Err]
structure Pt where
  T : Int
  V : Int
  deriving DecidableEq
def encT (p : Pt) : List Value := [.int .i64 p.T, .int .i64 p.V]
def firstS (s : Sg) : Int := atV s.Runs 0
def longS (s : Sg) : Int := atV s.Runs (manyR s.Runs - 1) - atV s.Runs 0
def lineIsM (s : Sg) : Bool := decide (endsE s.Line 0 (longS s) = 0) && decide (s.Raw.length = 0)
def flatM (s : Sg) : Bool := decide (s.Line.N = 0) && lineIsM s
def tiltM (s : Sg) : Bool := decide (s.Line.N ≠ 0) && (decide (s.Line.R = 0) && lineIsM s)
def freeM (s : Sg) : Bool := decide (s.Line.R ≠ 0) && lineIsM s
def rawM (s : Sg) : Bool := decide (s.Line = ⟨0, 0, 0, 0⟩) && (decide ((s.Raw.length : Int) = manyR s.Runs) && !(s.Raw.any fun v => !backM v))
def kindM (s : Sg) : Bool := if s.Kind = 1 then flatM s else if s.Kind = 2 then tiltM s else if s.Kind = 3 then freeM s else rawM s
def segM (s : Sg) : Bool := decide (1 ≤ s.Kind ∧ s.Kind ≤ 4) && (decide (0 ≤ s.Err ∧ s.Err ≤ 1099511627776) && (risesM s.Runs && kindM s))
def lAtV (l : Lin) (dt : Int) : Int := if lineM l then (if timeM dt then valV l dt else 0) else 0
def lAtE (l : Lin) (dt : Int) : Int := if lineM l then (if timeM dt then valE l dt else 2) else 150
def valS (s : Sg) (i : Nat) : Int := if s.Kind = 4 then (s.Raw[i]?).getD 0 else lAtV s.Line (atV s.Runs i - firstS s)
def ptsF (s : Sg) : Nat → List Int → List Pt
  | _, [] => []
  | i, t :: ts => ⟨t, valS s i⟩ :: ptsF s (i + 1) ts
def ptsS (s : Sg) : List Pt := ptsF s 0 (timesR s.Runs)
theorem lAt_eq (l : Lin) (dt : Int) : (if lineM l then (if timeM dt then tupE (valV l dt) (valE l dt) else tupE 0 2) else tupE 0 150) = .tuple [.int .i64 (lAtV l dt), .int .i64 (lAtE l dt)].toArray := by
 unfold lAtV lAtE; split <;> (try split) <;> rfl
theorem atV_in {l : List Rn} (h : risesM l = true) {i : Int} (h0 : 0 ≤ i) : 0 ≤ atV l i ∧ atV l i ≤ 281474976710656 := by
 obtain ⟨_, h2, _⟩ := risesM_t h
 unfold atV
 cases he : atR l i with
 | none => simp
 | some v => exact atR_some (risesL_all h2) h0 he
theorem manyR_1 {l : List Rn} (h : risesM l = true) : 1 ≤ manyR l ∧ manyR l ≤ 256 := by
 obtain ⟨h1, h2, h3⟩ := risesM_t h
 have := manyR_pos fun r hr => (risesL_all h2 r hr).1
 omega
theorem rAtV_y {l : List Rn} {i : Int} (h : risesM l = true) (h2 : 0 ≤ i) : rAtV l i = atV l i := by unfold rAtV; rw [if_pos h, if_neg (by omega)]
theorem ifr_t {l : List Rn} (h : (if risesM l then (0 : Int) else 170) = 0) : risesM l = true := by
 cases hr : risesM l
 ·rw [hr] at h; simp at h
 ·rfl
theorem ifr_f {l : List Rn} (h : ¬ (if risesM l then (0 : Int) else 170) = 0) : risesM l = false := by
 cases hr : risesM l
 ·rfl
 ·rw [hr] at h; simp at h
theorem segM_1 {s : Sg} (h : ¬ (1 ≤ s.Kind ∧ s.Kind ≤ 4)) : segM s = false := by simp only [segM, h, decide_false, Bool.false_and]
theorem segM_2 {s : Sg} (h : ¬ (0 ≤ s.Err ∧ s.Err ≤ 1099511627776)) : segM s = false := by simp only [segM, h, decide_false, Bool.false_and, Bool.and_false]
theorem segM_3 {s : Sg} (h : risesM s.Runs = false) : segM s = false := by simp only [segM, h, Bool.false_and, Bool.and_false]
theorem segM_4 {s : Sg} (h1 : 1 ≤ s.Kind ∧ s.Kind ≤ 4) (h2 : 0 ≤ s.Err ∧ s.Err ≤ 1099511627776) (h3 : risesM s.Runs = true) : segM s = kindM s := by simp only [segM, h1, h2, h3, and_self, decide_true, Bool.true_and]
theorem kindM_1 {s : Sg} (h : s.Kind = 1) : kindM s = flatM s := by simp [kindM, h]
theorem kindM_2 {s : Sg} (h : s.Kind = 2) : kindM s = tiltM s := by simp [kindM, h]
theorem kindM_3 {s : Sg} (h : s.Kind = 3) : kindM s = freeM s := by simp [kindM, h]
theorem kindM_4 {s : Sg} (h : s.Kind = 4) : kindM s = rawM s := by simp [kindM, h]
theorem segM_t {s : Sg} (h : segM s = true) : (1 ≤ s.Kind ∧ s.Kind ≤ 4) ∧ (0 ≤ s.Err ∧ s.Err ≤ 1099511627776) ∧ risesM s.Runs = true ∧ kindM s = true := by
 simp only [segM, Bool.and_eq_true, decide_eq_true_eq] at h; exact h
def idxF {α : Type} (p : α → Bool) : List α → Nat → Int
  | [], _ => -1
  | x :: xs, i => if p x then (i : Int) else idxF p xs (i + 1)
theorem idxF_any {α : Type} (p : α → Bool) : ∀ (l : List α) (i : Nat), decide (0 ≤ idxF p l i) = l.any p
  | [], i => by simp [idxF]
  | x :: l, i => by
    have := idxF_any p l (i + 1)
    cases h : p x <;> simp [idxF, h, this]
theorem c_segback (n : Int) : FnV Tryz.prog 176 #[.int .i64 n] [] (.bool (backM n)) := by
 refine FnC.go (m := 9) Tryz.func176 Tryz.ntmps176 rfl (Nat.le_of_ble_eq_true rfl) (fun Lf => ?_)
 refine Wr ?_
 refine Oy rfl (Yl.assign rfl) ?_
 refine OW.nil ?_
 refine Wr ?_
 refine Oy rfl (Yl.move rfl) ?_
 refine Oy rfl (Yl.geq rfl rfl) ?_
 refine Oy rfl (Yl.move rfl) ?_
 refine OW.split (t := 5) rfl (fun hq1 => ?_) (fun hq1 => ?_)
 ·have hq1d := of_decide_eq_true hq1
  refine OW.yl (Wn.run rfl rfl rfl hq1) rfl (Yl.move rfl) ?_
  refine OW.yl (Wn.run rfl rfl rfl hq1) rfl (Yl.leq rfl rfl) ?_
  refine Oy rfl (Yl.pick_true rfl hq1 rfl) ?_
  refine Oy rfl (Yl.assign rfl) ?_
  refine OW.nil ?_
  refine W.ret ?_
  refine Fin.mk (Rsl.one rfl rfl) ⟨?_, rfl⟩ (by repeat constructor) (by repeat constructor)
  simp [backM]; omega
 ·have hq1d := of_decide_eq_false hq1
  refine OW.not (Wn.not rfl rfl rfl hq1) rfl ?_
  refine OW.not (Wn.not rfl rfl rfl hq1) rfl ?_
  refine Oy rfl (Yl.pick_false rfl hq1 rfl) ?_
  refine Oy rfl (Yl.assign rfl) ?_
  refine OW.nil ?_
  refine W.ret ?_
  refine Fin.mk (Rsl.one rfl rfl) ⟨?_, rfl⟩ (by repeat constructor) (by repeat constructor)
  simp [backM]; omega
theorem c_span (s : Sg) (xa : SgA) (h : risesM s.Runs = true) : FnV Tryz.prog 169 #[.agg (encG s xa).toArray] [rowI 3 encR s.Runs xa.ra xa.rc] (.tuple #[.int .i64 (firstS s), .int .i64 (longS s)]) := by
 refine FnC.go (m := 31) Tryz.func169 Tryz.ntmps169 rfl (Nat.le_of_ble_eq_true rfl) (fun Lf => ?_)
 have hm := manyR_1 h
 have a0 := atV_in h (i := 0) (by omega)
 have a1 := atV_in h (i := manyR s.Runs - 1) (by omega)
 have e0 := rAtV_y h (i := 0) (by omega)
 have e1 := rAtV_y h (i := manyR s.Runs - 1) (by omega)
 refine Wr ?_
 refine OW.box (Wn.plain rfl) rfl rfl (by constructor) (fun b1 => ?_)
 refine Oy rfl (Yl.assign rfl) ?_
 refine Oy rfl (Yl.assign rfl) ?_
 refine OW.nil ?_
 refine Wr ?_
 refine Oy rfl (Yl.fieldL 0 (fa_105_0) rfl rfl) ?_
 refine Oy rfl (Yl.fieldL 1 (fa_53_1) rfl rfl) ?_
 refine Oy rfl (Yl.load1 Tryz.isAgg50 rfl (by repeat constructor) (by repeat constructor)) ?_
 refine OW.callv (Wn.plain rfl) rfl Tryz.call170 rfl (c_rAt _ _ _ 0 (by omega)) (by repeat constructor) ?_
 refine Oy rfl (Yl.move rfl) ?_
 refine Oy rfl (Yl.extract rfl (by repeat constructor)) ?_
 refine Oy rfl (Yl.extract rfl (by repeat constructor)) ?_
 refine Oy rfl (Yl.assign rfl) ?_
 refine Oy rfl (Yl.assign rfl) ?_
 refine OW.nil ?_
 refine W.seq ?_
 refine W.draw mixed ?_
 refine Aq (i := 0) rfl (Wn.plain rfl) rfl (fun _ => Yl.fieldL 0 (fa_105_0) rfl rfl) ?_
 refine Aq (i := 1) rfl (Wn.plain rfl) rfl (fun _ => Yl.fieldL 1 (fa_53_1) rfl rfl) ?_
 refine Al (i := 2) rfl (Wn.plain rfl) rfl (by repeat constructor) (Yl.load1 Tryz.isAgg50 rfl .head (by repeat constructor)) ?_
 refine Aq (i := 3) rfl (Wn.plain rfl) rfl (fun _ => Yl.fieldL 0 (fa_105_0) rfl rfl) ?_
 refine Aq (i := 4) rfl (Wn.plain rfl) rfl (fun _ => Yl.fieldL 1 (fa_53_1) rfl rfl) ?_
 refine Al (i := 5) rfl (Wn.plain rfl) rfl (by repeat constructor) (Yl.load1 Tryz.isAgg50 rfl .head (by repeat constructor)) ?_
 refine AW.step (i := 6) rfl (by kernel_rfl) (Wn.plain rfl) rfl (Ex.call rfl rfl rfl (FnC.tri0 Tryz.call64 ((c_rCount _ _ _).cast (v' := .int .i64 (manyR s.Runs)) (by rw [if_pos h]))) (by repeat constructor)) (.drop (by kernel_rfl) (.keep (by kernel_rfl) .nil)) ?_
 rintro _ _ ⟨_, ⟨rfl, rfl⟩, rfl⟩; refine ⟨by repeat constructor, ?_⟩
 refine Aq (i := 7) rfl (Wn.plain rfl) rfl (fun _ => Yl.sub rfl rfl (by omega)) ?_
 refine AW.step (i := 8) rfl (by kernel_rfl) (Wn.plain rfl) rfl (Ex.call rfl rfl rfl (FnC.tri0 Tryz.call170 (c_rAt _ _ _ (manyR s.Runs - 1) (by omega))) (by repeat constructor)) (.drop (by kernel_rfl) .nil) ?_
 rintro _ _ ⟨_, ⟨rfl, rfl⟩, rfl⟩; refine ⟨by repeat constructor, ?_⟩
 refine Aq (i := 9) rfl (Wn.plain rfl) rfl (fun _ => Yl.move rfl) ?_
 refine Aq (i := 10) rfl (Wn.plain rfl) rfl (fun _ => Yl.extract rfl (by repeat constructor)) ?_
 refine Aq (i := 11) rfl (Wn.plain rfl) rfl (fun _ => Yl.extract rfl (by repeat constructor)) ?_
 refine Aq (i := 12) rfl (Wn.plain rfl) rfl (fun _ => Yl.assign rfl) ?_
 refine Aq (i := 13) rfl (Wn.plain rfl) rfl (fun _ => Yl.assign rfl) ?_
 refine AW.done (by kernel_rfl) ?_
 refine Wr ?_
 refine Oy rfl (Yl.move rfl) ?_
 refine Oy rfl (Yl.move rfl) ?_
 refine Oy rfl (Yl.move rfl) ?_
 refine Oy rfl (Yl.sub rfl rfl (by omega)) ?_
 refine Oy rfl (Yl.assign rfl) ?_
 refine Oy rfl (Yl.assign rfl) ?_
 refine OW.nil ?_
 refine W.ret ?_
 refine Fin.mk (Rsl.two rfl rfl rfl) ⟨?_, rfl⟩ (by repeat constructor) (by repeat constructor)
 rw [e0, e1]; rfl
theorem c_lineIs (s : Sg) (xa : SgA) (h : risesM s.Runs = true) : FnV Tryz.prog 160 #[.agg (encG s xa).toArray] [rowI 3 encR s.Runs xa.ra xa.rc] (.bool (lineIsM s)) := by
 refine FnC.go (m := 29) Tryz.func160 Tryz.ntmps160 rfl (Nat.le_of_ble_eq_true rfl) (fun Lf => ?_)
 refine Wr ?_
 refine OW.box (Wn.plain rfl) rfl rfl (by constructor) (fun b1 => ?_)
 refine Oy rfl (Yl.assign rfl) ?_
 refine OW.nil ?_
 refine Wr ?_
 refine Oy rfl (Yl.load ⟨Tryz.isAgg105, Tryz.sizeOf105⟩ rfl (by repeat constructor) (by repeat constructor)) ?_
 refine OW.callv (Wn.plain rfl) rfl Tryz.call169 rfl (c_span _ _ (by assumption)) (by repeat constructor) ?_
 refine Oy rfl (Yl.move rfl) ?_
 refine Oy rfl (Yl.extract rfl (by repeat constructor)) ?_
 refine Oy rfl (Yl.extract rfl (by repeat constructor)) ?_
 refine Oy rfl (Yl.assign rfl) ?_
 refine Oy rfl (Yl.assign rfl) ?_
 refine OW.nil ?_
 refine Wr ?_
 refine Oy rfl (Yl.fieldL 0 (fa_105_0) rfl rfl) ?_
 refine Oy rfl (Yl.fieldL 2 (fa_53_2) rfl rfl) ?_
 refine Oy rfl (Yl.load ⟨Tryz.isAgg37, Tryz.sizeOf37⟩ rfl (by repeat constructor) (by repeat constructor)) ?_
 refine Oy rfl (Yl.move rfl) ?_
 refine OW.callv (Wn.plain rfl) rfl Tryz.call220 rfl (c_Ends s.Line 0 (longS s)) (by repeat constructor) ?_
 refine Oy rfl (Yl.move rfl) ?_
 refine Oy rfl (Yl.extract rfl (by repeat constructor)) ?_
 refine Oy rfl (Yl.extract rfl (by repeat constructor)) ?_
 refine OW.alloc (Wn.plain rfl) rfl Tryz.zeroValue194 (by constructor) (fun b2 => ?_)
 refine OW.store (Wn.plain rfl) Tryz.sizeOf194 rfl rfl (by constructor) (by repeat constructor) rfl (by repeat constructor) (by repeat constructor) ?_
 refine Oy rfl (Yl.assign rfl) ?_
 refine OW.nil ?_
 refine Wr ?_
 refine Oy rfl (Yl.move rfl) ?_
 refine Oy rfl (Yl.eql rfl rfl) ?_
 refine Oy rfl (Yl.move rfl) ?_
 refine OW.split (t := 22) rfl (fun hq1 => ?_) (fun hq1 => ?_)
 ·have hq1d := of_decide_eq_true hq1
  refine OW.yl (Wn.run rfl rfl rfl hq1) rfl (Yl.fieldL 0 (fa_105_0) rfl rfl) ?_
  refine OW.yl (Wn.run rfl rfl rfl hq1) rfl (Yl.fieldL 6 (fa_53_3) rfl rfl) ?_
  refine OW.yl (Wn.run rfl rfl rfl hq1) rfl (Yl.load1 Tryz.isAgg51 rfl (by repeat constructor) (by repeat constructor)) ?_
  refine OW.yl (Wn.run rfl rfl rfl hq1) rfl (Yl.len ⟨Tryz.underlying51, Tryz.sizeOf2⟩ rfl) ?_
  refine OW.yl (Wn.run rfl rfl rfl hq1) rfl (Yl.eql rfl rfl) ?_
  refine Oy rfl (Yl.pick_true rfl hq1 rfl) ?_
  refine Oy rfl (Yl.assign rfl) ?_
  refine OW.nil ?_
  refine W.ret ?_
  refine Fin.mk (Rsl.one rfl rfl) ⟨?_, rfl⟩ (by repeat constructor) (by repeat constructor)
  refine boolv ?_
  unfold lineIsM
  first | (rw [hq1, Bool.true_and]; exact decide_eq_decide.2 (by omega)) | (rw [hq1]; rfl)
 ·have hq1d := of_decide_eq_false hq1
  refine OW.not (Wn.not rfl rfl rfl hq1) rfl ?_
  refine OW.not (Wn.not rfl rfl rfl hq1) rfl ?_
  refine OW.not (Wn.not rfl rfl rfl hq1) rfl ?_
  refine OW.not (Wn.not rfl rfl rfl hq1) rfl ?_
  refine OW.not (Wn.not rfl rfl rfl hq1) rfl ?_
  refine Oy rfl (Yl.pick_false rfl hq1 rfl) ?_
  refine Oy rfl (Yl.assign rfl) ?_
  refine OW.nil ?_
  refine W.ret ?_
  refine Fin.mk (Rsl.one rfl rfl) ⟨?_, rfl⟩ (by repeat constructor) (by repeat constructor)
  refine boolv ?_
  unfold lineIsM
  first | (rw [hq1, Bool.true_and]; exact decide_eq_decide.2 (by omega)) | (rw [hq1]; rfl)
theorem c_kinds1 (s : Sg) (xa : SgA) (h : risesM s.Runs = true) : FnV Tryz.prog 159 #[.agg (encG s xa).toArray] [rowI 3 encR s.Runs xa.ra xa.rc] (.bool (flatM s)) := by
 refine FnC.go (m := 12) Tryz.func159 Tryz.ntmps159 rfl (Nat.le_of_ble_eq_true rfl) (fun Lf => ?_)
 refine Wr ?_
 refine OW.box (Wn.plain rfl) rfl rfl (by constructor) (fun b1 => ?_)
 refine Oy rfl (Yl.assign rfl) ?_
 refine OW.nil ?_
 refine Wr ?_
 refine Oy rfl (Yl.fieldL 0 (fa_105_0) rfl rfl) ?_
 refine Oy rfl (Yl.fieldL 2 (fa_53_2) rfl rfl) ?_
 refine Oy rfl (Yl.fieldL 4 (fa_37_2) rfl rfl) ?_
 refine Oy rfl (Yl.load1 Tryz.isAgg2 rfl (by repeat constructor) (by repeat constructor)) ?_
 refine Oy rfl (Yl.eql rfl rfl) ?_
 refine Oy rfl (Yl.move rfl) ?_
 refine OW.split (t := 8) rfl (fun hq1 => ?_) (fun hq1 => ?_)
 ·have hq1d := of_decide_eq_true hq1
  refine OW.yl (Wn.run rfl rfl rfl hq1) rfl (Yl.load ⟨Tryz.isAgg105, Tryz.sizeOf105⟩ rfl (by repeat constructor) (by repeat constructor)) ?_
  refine OW.callv (Wn.run rfl rfl rfl hq1) rfl Tryz.call160 rfl (c_lineIs _ _ (by assumption)) (by repeat constructor) ?_
  refine Oy rfl (Yl.pick_true rfl hq1 rfl) ?_
  refine Oy rfl (Yl.assign rfl) ?_
  refine OW.nil ?_
  refine W.ret ?_
  refine Fin.mk (Rsl.one rfl rfl) ⟨?_, rfl⟩ (by repeat constructor) (by repeat constructor)
  refine boolv ?_
  unfold flatM
  first | (rw [hq1, Bool.true_and]; done) | (rw [hq1, Bool.true_and, hq2, Bool.true_and]; done) | (rw [hq1, Bool.true_and, hq2]; rfl) | (rw [hq1]; rfl)
 ·have hq1d := of_decide_eq_false hq1
  refine OW.not (Wn.not rfl rfl rfl hq1) rfl ?_
  refine OW.not (Wn.not rfl rfl rfl hq1) rfl ?_
  refine Oy rfl (Yl.pick_false rfl hq1 rfl) ?_
  refine Oy rfl (Yl.assign rfl) ?_
  refine OW.nil ?_
  refine W.ret ?_
  refine Fin.mk (Rsl.one rfl rfl) ⟨?_, rfl⟩ (by repeat constructor) (by repeat constructor)
  refine boolv ?_
  unfold flatM
  first | (rw [hq1, Bool.true_and]; done) | (rw [hq1, Bool.true_and, hq2, Bool.true_and]; done) | (rw [hq1, Bool.true_and, hq2]; rfl) | (rw [hq1]; rfl)
theorem c_kinds2 (s : Sg) (xa : SgA) (h : risesM s.Runs = true) : FnV Tryz.prog 161 #[.agg (encG s xa).toArray] [rowI 3 encR s.Runs xa.ra xa.rc] (.bool (tiltM s)) := by
 refine FnC.go (m := 19) Tryz.func161 Tryz.ntmps161 rfl (Nat.le_of_ble_eq_true rfl) (fun Lf => ?_)
 refine Wr ?_
 refine OW.box (Wn.plain rfl) rfl rfl (by constructor) (fun b1 => ?_)
 refine Oy rfl (Yl.assign rfl) ?_
 refine OW.nil ?_
 refine Wr ?_
 refine Oy rfl (Yl.fieldL 0 (fa_105_0) rfl rfl) ?_
 refine Oy rfl (Yl.fieldL 2 (fa_53_2) rfl rfl) ?_
 refine Oy rfl (Yl.fieldL 4 (fa_37_2) rfl rfl) ?_
 refine Oy rfl (Yl.load1 Tryz.isAgg2 rfl (by repeat constructor) (by repeat constructor)) ?_
 refine Oy rfl (Yl.neq rfl rfl) ?_
 refine Oy rfl (Yl.move rfl) ?_
 refine OW.split (t := 8) rfl (fun hq1 => ?_) (fun hq1 => ?_)
 ·have hq1d := of_decide_eq_true hq1
  refine OW.yl (Wn.run rfl rfl rfl hq1) rfl (Yl.fieldL 0 (fa_105_0) rfl rfl) ?_
  refine OW.yl (Wn.run rfl rfl rfl hq1) rfl (Yl.fieldL 2 (fa_53_2) rfl rfl) ?_
  refine OW.yl (Wn.run rfl rfl rfl hq1) rfl (Yl.fieldL 3 (fa_37_1) rfl rfl) ?_
  refine OW.yl (Wn.run rfl rfl rfl hq1) rfl (Yl.load1 Tryz.isAgg2 rfl (by repeat constructor) (by repeat constructor)) ?_
  refine OW.yl (Wn.run rfl rfl rfl hq1) rfl (Yl.eql rfl rfl) ?_
  refine Oy rfl (Yl.pick_true rfl hq1 rfl) ?_
  refine Oy rfl (Yl.move rfl) ?_
  refine OW.split (t := 15) rfl (fun hq2 => ?_) (fun hq2 => ?_)
  ·have hq2d := of_decide_eq_true hq2
   refine OW.yl (Wn.run rfl rfl rfl hq2) rfl (Yl.load ⟨Tryz.isAgg105, Tryz.sizeOf105⟩ rfl (by repeat constructor) (by repeat constructor)) ?_
   refine OW.callv (Wn.run rfl rfl rfl hq2) rfl Tryz.call160 rfl (c_lineIs _ _ (by assumption)) (by repeat constructor) ?_
   refine Oy rfl (Yl.pick_true rfl hq2 rfl) ?_
   refine Oy rfl (Yl.assign rfl) ?_
   refine OW.nil ?_
   refine W.ret ?_
   refine Fin.mk (Rsl.one rfl rfl) ⟨?_, rfl⟩ (by repeat constructor) (by repeat constructor)
   refine boolv ?_
   unfold tiltM
   first | (rw [hq1, Bool.true_and]; done) | (rw [hq1, Bool.true_and, hq2, Bool.true_and]; done) | (rw [hq1, Bool.true_and, hq2]; rfl) | (rw [hq1]; rfl)
  ·have hq2d := of_decide_eq_false hq2
   refine OW.not (Wn.not rfl rfl rfl hq2) rfl ?_
   refine OW.not (Wn.not rfl rfl rfl hq2) rfl ?_
   refine Oy rfl (Yl.pick_false rfl hq2 rfl) ?_
   refine Oy rfl (Yl.assign rfl) ?_
   refine OW.nil ?_
   refine W.ret ?_
   refine Fin.mk (Rsl.one rfl rfl) ⟨?_, rfl⟩ (by repeat constructor) (by repeat constructor)
   refine boolv ?_
   unfold tiltM
   first | (rw [hq1, Bool.true_and]; done) | (rw [hq1, Bool.true_and, hq2, Bool.true_and]; done) | (rw [hq1, Bool.true_and, hq2]; rfl) | (rw [hq1]; rfl)
 ·have hq1d := of_decide_eq_false hq1
  refine OW.not (Wn.not rfl rfl rfl hq1) rfl ?_
  refine OW.not (Wn.not rfl rfl rfl hq1) rfl ?_
  refine OW.not (Wn.not rfl rfl rfl hq1) rfl ?_
  refine OW.not (Wn.not rfl rfl rfl hq1) rfl ?_
  refine OW.not (Wn.not rfl rfl rfl hq1) rfl ?_
  refine Oy rfl (Yl.pick_false rfl hq1 rfl) ?_
  refine Oy rfl (Yl.move rfl) ?_
  refine OW.not (Wn.not rfl rfl rfl rfl) rfl ?_
  refine OW.not (Wn.not rfl rfl rfl rfl) rfl ?_
  refine Oy rfl (Yl.pick_false rfl rfl rfl) ?_
  refine Oy rfl (Yl.assign rfl) ?_
  refine OW.nil ?_
  refine W.ret ?_
  refine Fin.mk (Rsl.one rfl rfl) ⟨?_, rfl⟩ (by repeat constructor) (by repeat constructor)
  refine boolv ?_
  unfold tiltM
  first | (rw [hq1, Bool.true_and]; done) | (rw [hq1, Bool.true_and, hq2, Bool.true_and]; done) | (rw [hq1, Bool.true_and, hq2]; rfl) | (rw [hq1]; rfl)
theorem c_kinds3 (s : Sg) (xa : SgA) (h : risesM s.Runs = true) : FnV Tryz.prog 162 #[.agg (encG s xa).toArray] [rowI 3 encR s.Runs xa.ra xa.rc] (.bool (freeM s)) := by
 refine FnC.go (m := 12) Tryz.func162 Tryz.ntmps162 rfl (Nat.le_of_ble_eq_true rfl) (fun Lf => ?_)
 refine Wr ?_
 refine OW.box (Wn.plain rfl) rfl rfl (by constructor) (fun b1 => ?_)
 refine Oy rfl (Yl.assign rfl) ?_
 refine OW.nil ?_
 refine Wr ?_
 refine Oy rfl (Yl.fieldL 0 (fa_105_0) rfl rfl) ?_
 refine Oy rfl (Yl.fieldL 2 (fa_53_2) rfl rfl) ?_
 refine Oy rfl (Yl.fieldL 3 (fa_37_1) rfl rfl) ?_
 refine Oy rfl (Yl.load1 Tryz.isAgg2 rfl (by repeat constructor) (by repeat constructor)) ?_
 refine Oy rfl (Yl.neq rfl rfl) ?_
 refine Oy rfl (Yl.move rfl) ?_
 refine OW.split (t := 8) rfl (fun hq1 => ?_) (fun hq1 => ?_)
 ·have hq1d := of_decide_eq_true hq1
  refine OW.yl (Wn.run rfl rfl rfl hq1) rfl (Yl.load ⟨Tryz.isAgg105, Tryz.sizeOf105⟩ rfl (by repeat constructor) (by repeat constructor)) ?_
  refine OW.callv (Wn.run rfl rfl rfl hq1) rfl Tryz.call160 rfl (c_lineIs _ _ (by assumption)) (by repeat constructor) ?_
  refine Oy rfl (Yl.pick_true rfl hq1 rfl) ?_
  refine Oy rfl (Yl.assign rfl) ?_
  refine OW.nil ?_
  refine W.ret ?_
  refine Fin.mk (Rsl.one rfl rfl) ⟨?_, rfl⟩ (by repeat constructor) (by repeat constructor)
  refine boolv ?_
  unfold freeM
  first | (rw [hq1, Bool.true_and]; done) | (rw [hq1, Bool.true_and, hq2, Bool.true_and]; done) | (rw [hq1, Bool.true_and, hq2]; rfl) | (rw [hq1]; rfl)
 ·have hq1d := of_decide_eq_false hq1
  refine OW.not (Wn.not rfl rfl rfl hq1) rfl ?_
  refine OW.not (Wn.not rfl rfl rfl hq1) rfl ?_
  refine Oy rfl (Yl.pick_false rfl hq1 rfl) ?_
  refine Oy rfl (Yl.assign rfl) ?_
  refine OW.nil ?_
  refine W.ret ?_
  refine Fin.mk (Rsl.one rfl rfl) ⟨?_, rfl⟩ (by repeat constructor) (by repeat constructor)
  refine boolv ?_
  unfold freeM
  first | (rw [hq1, Bool.true_and]; done) | (rw [hq1, Bool.true_and, hq2, Bool.true_and]; done) | (rw [hq1, Bool.true_and, hq2]; rfl) | (rw [hq1]; rfl)
theorem c_rawIs1 (n : Int) : FnV Tryz.prog 224 #[.int .i64 n] [] (.bool (!backM n)) := by
 refine FnC.go (m := 6) Tryz.func224 Tryz.ntmps224 rfl (Nat.le_of_ble_eq_true rfl) (fun Lf => ?_)
 refine Wr ?_
 refine Oy rfl (Yl.assign rfl) ?_
 refine OW.nil ?_
 refine Wr ?_
 refine Oy rfl (Yl.move rfl) ?_
 refine OW.callv (Wn.plain rfl) rfl Tryz.call176 rfl (c_segback _) (by repeat constructor) ?_
 refine Oy rfl (Yl.not rfl) ?_
 refine Oy rfl (Yl.assign rfl) ?_
 refine OW.nil ?_
 refine W.ret ?_
 refine Fin.mk (Rsl.one rfl rfl) ⟨?_, rfl⟩ (by repeat constructor) (by repeat constructor)
 rfl

def nbk (n : Int) : Bool := !backM n
theorem idx_go {p : Int → Bool} {l : List Int} {i : Nat} {y : Int} (h : l.drop i = y :: l.drop (i + 1)) (hp : p y = false) : idxF p (l.drop i) i = idxF p (l.drop (i + 1)) (i + 1) := by rw [h]; simp [idxF, hp]
theorem idx_hit {p : Int → Bool} {l : List Int} {i : Nat} {y : Int} (h : l.drop i = y :: l.drop (i + 1)) (hp : p y = true) : idxF p (l.drop i) i = (i : Int) := by rw [h]; simp [idxF, hp]

theorem c_idxRaw (l : List Int) (a : Option Addr) (c : Nat) (hl : l.length ≤ 4000000) : FnV Tryz.prog 272 #[.slice a l.length c, .func (.func 224) #[] #[]] [rowI 1 encI l a c] (.int .i64 (idxF nbk l 0)) := by
 refine FnC.go (m := 19) Tryz.func272 Tryz.ntmps272 rfl (Nat.le_of_ble_eq_true rfl) (fun Lf => ?_)
 refine Wr ?_
 refine Oy rfl (Yl.assign rfl) ?_
 refine OW.nil ?_
 refine W.seq ?_
 refine Wr ?_
 refine Oy rfl (Yl.move rfl) ?_
 refine Oy rfl (Yl.len ⟨Tryz.underlying51, Tryz.sizeOf2⟩ rfl) ?_
 refine Oy rfl (Yl.move rfl) ?_
 refine OW.nil ?_
 refine W.block ?_
 refine W.loopS (X := (Nat)) (fun (i : (Nat)) => (i ≤ l.length ∧ (idxF nbk l 0 = idxF nbk (l.drop i) i) : Prop)) (fun (i : (Nat)) => ([(8, .int .i64 (i : Int))] : Env)) (fun (i : (Nat)) => ([] : List Res)) (fun (i : (Nat)) => (l.length - i : Nat)) 0 [(0, _), (1, _), (7, _)] (by exact ⟨Nat.zero_le _, rfl⟩) (Le.cons rfl (Le.cons rfl (Le.cons rfl (Le.cons rfl (Le.nil _))))) (by repeat constructor) ?_
 rintro i ⟨hi, hinv⟩
 show W _ _ _ _ _ _ ([(8, .int .i64 (i : Int))] ++ _) _ ([] ++ _)
 refine Wr ?_
 refine Oy rfl (Yl.lss rfl rfl) ?_
 refine OW.nil ?_
 refine W.seq ?_
 refine W.cond rfl (fun hq1 => ?_) (fun hq1 => ?_)
 ·have hq1d := of_decide_eq_true hq1
  obtain ⟨y, hy, hdr⟩ := drop_at (l := l) (i := i) (by omega)
  refine W.skip ?_
  refine W.seq ?_
  refine W.block ?_
  refine Wr ?_
  refine Oy rfl (Yl.move rfl) ?_
  refine Oy rfl (Yl.assign rfl) ?_
  refine OW.nil ?_
  refine Wr ?_
  refine Oy rfl (Yl.move rfl) ?_
  refine Oy rfl (Yl.move rfl) ?_
  refine Oy rfl (Yl.move rfl) ?_
  refine OW.fact (Sl.isSome (by repeat constructor) (by omega)) ?_
  rintro ⟨p1, hp1⟩; try dsimp only at hp1
  subst hp1
  refine Oy rfl (Yl.indexS i ⟨Tryz.underlying51, Tryz.sizeOf2⟩ rfl rfl rfl (by omega)) ?_
  refine Oy rfl (Yl.loadS0 Tryz.isAgg2 rfl (by repeat constructor) (map_at hy) (by repeat constructor)) ?_
  refine OW.call (Wn.plain rfl) rfl rfl rfl (FnC.triC Tryz.call224 (c_rawIs1 _)) (by repeat constructor) ?_
  rintro _ _ ⟨rfl, rfl⟩
  refine OW.nil ?_
  refine W.cond rfl (fun hq2 => ?_) (fun hq2 => ?_)
  ·rw [idx_hit hdr hq2] at hinv
   refine Wr ?_
   refine Oy rfl (Yl.move rfl) ?_
   refine Oy rfl (Yl.assign rfl) ?_
   refine OW.nil ?_
   refine W.ret ?_
   refine Fin.mk (Rsl.one rfl rfl) ⟨?_, rfl⟩ (by repeat constructor) (by repeat constructor)
   first | (rw [hinv]; done) | (rw [hinv]; rfl)
  ·refine W.skip ?_
   refine W.region ?_
   refine Oy rfl (Yl.add rfl rfl (by omega)) ?_
   refine Oy rfl (Yl.move rfl) ?_
   refine OW.nil ?_
   refine ⟨i + 1, _, ⟨by omega, ?_⟩, (Le.cons rfl (Le.cons rfl (Le.cons rfl (Le.cons rfl (Le.nil _))))), rfl, by repeat constructor, by repeat constructor, by first | omega | (dsimp only; omega)⟩
   rw [hinv]; exact idx_go hdr hq2
 ·have hq1d := of_decide_eq_false hq1
  rw [drop_end (by omega)] at hinv
  refine W.exit ?_
  refine Wr ?_
  refine Oy rfl (Yl.assign rfl) ?_
  refine OW.nil ?_
  refine W.ret ?_
  refine Fin.mk (Rsl.one rfl rfl) ⟨?_, rfl⟩ (by repeat constructor) (by repeat constructor)
  first | (rw [hinv]; done) | (rw [hinv]; rfl)
theorem c_conRaw (l : List Int) (a : Option Addr) (c : Nat) (hl : l.length ≤ 4000000) : FnV Tryz.prog 223 #[.slice a l.length c, .func (.func 224) #[] #[]] [rowI 1 encI l a c] (.bool (l.any nbk)) := by
 refine FnC.go (m := 9) Tryz.func223 Tryz.ntmps223 rfl (Nat.le_of_ble_eq_true rfl) (fun Lf => ?_)
 refine Wr ?_
 refine Oy rfl (Yl.assign rfl) ?_
 refine OW.nil ?_
 refine Wr ?_
 refine Oy rfl (Yl.move rfl) ?_
 refine Oy rfl (Yl.move rfl) ?_
 refine OW.callv (Wn.plain rfl) rfl Tryz.call272 rfl (c_idxRaw _ _ _ (by assumption)) (by repeat constructor) ?_
 refine Oy rfl (Yl.geq rfl rfl) ?_
 refine Oy rfl (Yl.assign rfl) ?_
 refine OW.nil ?_
 refine W.ret ?_
 refine Fin.mk (Rsl.one rfl rfl) ⟨?_, rfl⟩ (by repeat constructor) (by repeat constructor)
 rw [idxF_any]
theorem c_rawIs (s : Sg) (xa : SgA) (h : risesM s.Runs = true) : FnV Tryz.prog 164 #[.agg (encG s xa).toArray] [rowI 3 encR s.Runs xa.ra xa.rc, rowI 1 encI s.Raw xa.wa xa.wc] (.bool (rawM s)) := by
 refine FnC.go (m := 26) Tryz.func164 Tryz.ntmps164 rfl (Nat.le_of_ble_eq_true rfl) (fun Lf => ?_)
 refine Wr ?_
 refine OW.box (Wn.plain rfl) rfl rfl (by constructor) (fun b1 => ?_)
 refine Oy rfl (Yl.assign rfl) ?_
 refine OW.nil ?_
 refine W.seq ?_
 refine W.draw mixed ?_
 refine Aq (i := 0) rfl (Wn.plain rfl) rfl (fun _ => Yl.fieldL 0 (fa_105_0) rfl rfl) ?_
 refine Aq (i := 1) rfl (Wn.plain rfl) rfl (fun _ => Yl.fieldL 2 (fa_53_2) rfl rfl) ?_
 refine Al (i := 2) rfl (Wn.plain rfl) rfl (by repeat constructor) (Yl.load ⟨Tryz.isAgg37, Tryz.sizeOf37⟩ rfl .head (by repeat constructor)) ?_
 refine Aq (i := 3) rfl (Wn.plain rfl) rfl (fun _ => Yl.build (is := []) (xs := []) st_37 rfl rfl (by repeat constructor)) ?_
 refine Aq (i := 4) rfl (Wn.plain rfl) rfl (fun _ => Yl.eqst (eqv_37 s.Line ⟨0, 0, 0, 0⟩) rfl rfl) ?_
 refine Aq (i := 5) rfl (Wn.plain rfl) rfl (fun _ => Yl.move rfl) ?_
 refine AW.split (t := 8) rfl (fun hq1 => ?_) (fun hq1 => ?_)
 ·have hq1d := of_decide_eq_true hq1
  refine Aq (i := 6) rfl (Wn.run rfl rfl rfl hq1) rfl (fun _ => Yl.fieldL 0 (fa_105_0) rfl rfl) ?_
  refine Aq (i := 7) rfl (Wn.run rfl rfl rfl hq1) rfl (fun _ => Yl.fieldL 6 (fa_53_3) rfl rfl) ?_
  refine Al (i := 8) rfl (Wn.run rfl rfl rfl hq1) rfl (by repeat constructor) (Yl.load1 Tryz.isAgg51 rfl .head (by repeat constructor)) ?_
  refine Aq (i := 9) rfl (Wn.run rfl rfl rfl hq1) rfl (fun _ => Yl.len ⟨Tryz.underlying51, Tryz.sizeOf2⟩ rfl) ?_
  refine Aq (i := 10) rfl (Wn.run rfl rfl rfl hq1) rfl (fun _ => Yl.fieldL 0 (fa_105_0) rfl rfl) ?_
  refine Aq (i := 11) rfl (Wn.run rfl rfl rfl hq1) rfl (fun _ => Yl.fieldL 1 (fa_53_1) rfl rfl) ?_
  refine Al (i := 12) rfl (Wn.run rfl rfl rfl hq1) rfl (by repeat constructor) (Yl.load1 Tryz.isAgg50 rfl .head (by repeat constructor)) ?_
  refine AW.step (i := 13) rfl (by kernel_rfl) (Wn.run rfl rfl rfl hq1) rfl (Ex.call rfl rfl rfl (FnC.tri0 Tryz.call64 ((c_rCount _ _ _).cast (v' := .int .i64 (manyR s.Runs)) (by rw [if_pos h]))) (by repeat constructor)) (.drop (by kernel_rfl) (.keep (by kernel_rfl) (.keep (by kernel_rfl) .nil))) ?_
  rintro _ _ ⟨_, ⟨rfl, rfl⟩, rfl⟩; refine ⟨by repeat constructor, ?_⟩
  refine Aq (i := 14) rfl (Wn.run rfl rfl rfl hq1) rfl (fun _ => Yl.eql rfl rfl) ?_
  refine Aq (i := 15) rfl (Wn.plain rfl) rfl (fun _ => Yl.pick_true rfl hq1 rfl) ?_
  refine Aq (i := 16) rfl (Wn.plain rfl) rfl (fun _ => Yl.move rfl) ?_
  refine AW.split (t := 19) rfl (fun hq2 => ?_) (fun hq2 => ?_)
  ·have hq2d := of_decide_eq_true hq2
   have hlen : s.Raw.length ≤ 4000000 := by have := manyR_1 h; omega
   refine Aq (i := 17) rfl (Wn.run rfl rfl rfl hq2) rfl (fun _ => Yl.fieldL 0 (fa_105_0) rfl rfl) ?_
   refine Aq (i := 18) rfl (Wn.run rfl rfl rfl hq2) rfl (fun _ => Yl.fieldL 6 (fa_53_3) rfl rfl) ?_
   refine Al (i := 19) rfl (Wn.run rfl rfl rfl hq2) rfl (by repeat constructor) (Yl.load1 Tryz.isAgg51 rfl .head (by repeat constructor)) ?_
   refine AW.step (i := 20) rfl (by kernel_rfl) (Wn.run rfl rfl rfl hq2) rfl (Ex.call rfl rfl rfl (FnC.tri0 Tryz.call223 (c_conRaw _ _ _ hlen)) (by repeat constructor)) (.drop (by kernel_rfl) (.keep (by kernel_rfl) (.keep (by kernel_rfl) .nil))) ?_
   rintro _ _ ⟨_, ⟨rfl, rfl⟩, rfl⟩; refine ⟨by repeat constructor, ?_⟩
   refine Aq (i := 21) rfl (Wn.run rfl rfl rfl hq2) rfl (fun _ => Yl.not rfl) ?_
   refine Aq (i := 22) rfl (Wn.plain rfl) rfl (fun _ => Yl.pick_true rfl hq2 rfl) ?_
   refine Aq (i := 23) rfl (Wn.plain rfl) rfl (fun _ => Yl.assign rfl) ?_
   refine AW.done (by kernel_rfl) ?_
   refine W.ret ?_
   refine Fin.mk (Rsl.one rfl rfl) ⟨?_, rfl⟩ (by repeat constructor) (by repeat constructor)
   refine boolv ?_
   unfold rawM
   first | (rw [hq1, Bool.true_and, hq2, Bool.true_and]; done) | (rw [hq1, Bool.true_and, hq2]; rfl) | (rw [hq1]; rfl)
  ·have hq2d := of_decide_eq_false hq2
   refine AW.not (i := 17) rfl (by kernel_rfl) (by kernel_rfl) (by kernel_rfl) (Wn.not rfl rfl rfl hq2) rfl ?_
   refine AW.not (i := 18) rfl (by kernel_rfl) (by kernel_rfl) (by kernel_rfl) (Wn.not rfl rfl rfl hq2) rfl ?_
   refine AW.not (i := 19) rfl (by kernel_rfl) (by kernel_rfl) (by kernel_rfl) (Wn.not rfl rfl rfl hq2) rfl ?_
   refine AW.not (i := 20) rfl (by kernel_rfl) (by kernel_rfl) (by kernel_rfl) (Wn.not rfl rfl rfl hq2) rfl ?_
   refine AW.not (i := 21) rfl (by kernel_rfl) (by kernel_rfl) (by kernel_rfl) (Wn.not rfl rfl rfl hq2) rfl ?_
   refine Aq (i := 22) rfl (Wn.plain rfl) rfl (fun _ => Yl.pick_false rfl hq2 rfl) ?_
   refine Aq (i := 23) rfl (Wn.plain rfl) rfl (fun _ => Yl.assign rfl) ?_
   refine AW.done (by kernel_rfl) ?_
   refine W.ret ?_
   refine Fin.mk (Rsl.one rfl rfl) ⟨?_, rfl⟩ (by repeat constructor) (by repeat constructor)
   refine boolv ?_
   unfold rawM
   first | (rw [hq1, Bool.true_and, hq2, Bool.true_and]; done) | (rw [hq1, Bool.true_and, hq2]; rfl) | (rw [hq1]; rfl)
 ·have hq1d := of_decide_eq_false hq1
  refine AW.not (i := 6) rfl (by kernel_rfl) (by kernel_rfl) (by kernel_rfl) (Wn.not rfl rfl rfl hq1) rfl ?_
  refine AW.not (i := 7) rfl (by kernel_rfl) (by kernel_rfl) (by kernel_rfl) (Wn.not rfl rfl rfl hq1) rfl ?_
  refine AW.not (i := 8) rfl (by kernel_rfl) (by kernel_rfl) (by kernel_rfl) (Wn.not rfl rfl rfl hq1) rfl ?_
  refine AW.not (i := 9) rfl (by kernel_rfl) (by kernel_rfl) (by kernel_rfl) (Wn.not rfl rfl rfl hq1) rfl ?_
  refine AW.not (i := 10) rfl (by kernel_rfl) (by kernel_rfl) (by kernel_rfl) (Wn.not rfl rfl rfl hq1) rfl ?_
  refine AW.not (i := 11) rfl (by kernel_rfl) (by kernel_rfl) (by kernel_rfl) (Wn.not rfl rfl rfl hq1) rfl ?_
  refine AW.not (i := 12) rfl (by kernel_rfl) (by kernel_rfl) (by kernel_rfl) (Wn.not rfl rfl rfl hq1) rfl ?_
  refine AW.not (i := 13) rfl (by kernel_rfl) (by kernel_rfl) (by kernel_rfl) (Wn.not rfl rfl rfl hq1) rfl ?_
  refine AW.not (i := 14) rfl (by kernel_rfl) (by kernel_rfl) (by kernel_rfl) (Wn.not rfl rfl rfl hq1) rfl ?_
  refine Aq (i := 15) rfl (Wn.plain rfl) rfl (fun _ => Yl.pick_false rfl hq1 rfl) ?_
  refine Aq (i := 16) rfl (Wn.plain rfl) rfl (fun _ => Yl.move rfl) ?_
  refine AW.not (i := 17) rfl (by kernel_rfl) (by kernel_rfl) (by kernel_rfl) (Wn.not rfl rfl rfl rfl) rfl ?_
  refine AW.not (i := 18) rfl (by kernel_rfl) (by kernel_rfl) (by kernel_rfl) (Wn.not rfl rfl rfl rfl) rfl ?_
  refine AW.not (i := 19) rfl (by kernel_rfl) (by kernel_rfl) (by kernel_rfl) (Wn.not rfl rfl rfl rfl) rfl ?_
  refine AW.not (i := 20) rfl (by kernel_rfl) (by kernel_rfl) (by kernel_rfl) (Wn.not rfl rfl rfl rfl) rfl ?_
  refine AW.not (i := 21) rfl (by kernel_rfl) (by kernel_rfl) (by kernel_rfl) (Wn.not rfl rfl rfl rfl) rfl ?_
  refine Aq (i := 22) rfl (Wn.plain rfl) rfl (fun _ => Yl.pick_false rfl rfl rfl) ?_
  refine Aq (i := 23) rfl (Wn.plain rfl) rfl (fun _ => Yl.assign rfl) ?_
  refine AW.done (by kernel_rfl) ?_
  refine W.ret ?_
  refine Fin.mk (Rsl.one rfl rfl) ⟨?_, rfl⟩ (by repeat constructor) (by repeat constructor)
  refine boolv ?_
  unfold rawM
  first | (rw [hq1, Bool.true_and, hq2, Bool.true_and]; done) | (rw [hq1, Bool.true_and, hq2]; rfl) | (rw [hq1]; rfl)
theorem c_kinds  : FnV Tryz.prog 105 #[] [] (.agg [.nilFunc, .nilFunc, .func (.func 159) #[] #[], .func (.func 163) #[] #[], .func (.func 161) #[] #[], .func (.func 163) #[] #[], .func (.func 162) #[] #[], .func (.func 163) #[] #[], .func (.func 164) #[] #[], .func (.func 165) #[] #[]].toArray) := by
 refine FnC.go (m := 12) Tryz.func105 Tryz.ntmps105 rfl (Nat.le_of_ble_eq_true rfl) (fun Lf => ?_)
 refine Wr ?_
 refine OW.alloc (Wn.plain rfl) rfl Tryz.zeroValue175 (by constructor) (fun b1 => ?_)
 refine OW.nil ?_
 refine Wr ?_
 refine Oy rfl (Yl.assign rfl) ?_
 refine OW.nil ?_
 refine Wr ?_
 refine Oy rfl (Yl.assign rfl) ?_
 refine OW.nil ?_
 refine Wr ?_
 refine Oy rfl (Yl.assign rfl) ?_
 refine OW.nil ?_
 refine Wr ?_
 refine Oy rfl (Yl.move rfl) ?_
 refine Oy rfl (Yl.build (is := [0, 1]) (xs := [.tmp 4, .func 163]) st_174 rfl rfl (by repeat constructor)) ?_
 refine Oy rfl (Yl.move rfl) ?_
 refine Oy rfl (Yl.build (is := [0, 1]) (xs := [.tmp 6, .func 163]) st_174 rfl rfl (by repeat constructor)) ?_
 refine Oy rfl (Yl.move rfl) ?_
 refine Oy rfl (Yl.build (is := [0, 1]) (xs := [.tmp 8, .func 163]) st_174 rfl rfl (by repeat constructor)) ?_
 refine Oy rfl (Yl.build (is := [0, 1]) (xs := [.func 164, .func 165]) st_174 rfl rfl (by repeat constructor)) ?_
 refine Oy rfl (Yl.buildA (is := [1, 2, 3, 4]) (xs := [.tmp 5, .tmp 7, .tmp 9, .tmp 10]) ab_175 rfl rfl (by repeat constructor)) ?_
 refine OW.store (Wn.plain rfl) Tryz.sizeOf175 rfl rfl (by constructor) (by repeat constructor) rfl (by repeat constructor) (by repeat constructor) ?_
 refine OW.nil ?_
 refine W.ret ?_
 exact Fin.v (Rsl.of1 rfl (.cell ⟨Tryz.isAgg175, Tryz.sizeOf175⟩ rfl (by repeat constructor) (by repeat constructor))) (by repeat constructor)
theorem c_gis (s : Sg) (xa : SgA) : FnV Tryz.prog 61 #[.agg (encG s xa).toArray] [rowI 3 encR s.Runs xa.ra xa.rc, rowI 1 encI s.Raw xa.wa xa.wc] (.bool (segM s)) := by
 refine FnC.go (m := 42) Tryz.func61 Tryz.ntmps61 rfl (Nat.le_of_ble_eq_true rfl) (fun Lf => ?_)
 refine Wr ?_
 refine OW.box (Wn.plain rfl) rfl rfl (by constructor) (fun b1 => ?_)
 refine Oy rfl (Yl.assign rfl) ?_
 refine OW.nil ?_
 refine W.seq ?_
 refine W.draw mixed ?_
 refine Aq (i := 0) rfl (Wn.plain rfl) rfl (fun _ => Yl.fieldL 0 (fa_105_0) rfl rfl) ?_
 refine Aq (i := 1) rfl (Wn.plain rfl) rfl (fun _ => Yl.fieldL 0 (fa_53_0) rfl rfl) ?_
 refine Al (i := 2) rfl (Wn.plain rfl) rfl (by repeat constructor) (Yl.load1 Tryz.isAgg3 rfl .head (by repeat constructor)) ?_
 refine Aq (i := 3) rfl (Wn.plain rfl) rfl (fun _ => Yl.geq rfl rfl) ?_
 refine Aq (i := 4) rfl (Wn.plain rfl) rfl (fun _ => Yl.move rfl) ?_
 refine AW.split (t := 7) rfl (fun hq1 => ?_) (fun hq1 => ?_)
 ·have hq1d := of_decide_eq_true hq1
  refine Aq (i := 5) rfl (Wn.run rfl rfl rfl hq1) rfl (fun _ => Yl.fieldL 0 (fa_105_0) rfl rfl) ?_
  refine Aq (i := 6) rfl (Wn.run rfl rfl rfl hq1) rfl (fun _ => Yl.fieldL 0 (fa_53_0) rfl rfl) ?_
  refine Al (i := 7) rfl (Wn.run rfl rfl rfl hq1) rfl (by repeat constructor) (Yl.load1 Tryz.isAgg3 rfl .head (by repeat constructor)) ?_
  refine Aq (i := 8) rfl (Wn.run rfl rfl rfl hq1) rfl (fun _ => Yl.leq rfl rfl) ?_
  refine Aq (i := 9) rfl (Wn.plain rfl) rfl (fun _ => Yl.pick_true rfl hq1 rfl) ?_
  refine Aq (i := 10) rfl (Wn.plain rfl) rfl (fun _ => Yl.move rfl) ?_
  refine AW.split (t := 13) rfl (fun hq2 => ?_) (fun hq2 => ?_)
  ·have hq2d := of_decide_eq_true hq2
   refine Aq (i := 11) rfl (Wn.run rfl rfl rfl hq2) rfl (fun _ => Yl.fieldL 0 (fa_105_0) rfl rfl) ?_
   refine Aq (i := 12) rfl (Wn.run rfl rfl rfl hq2) rfl (fun _ => Yl.fieldL 7 (fa_53_4) rfl rfl) ?_
   refine Al (i := 13) rfl (Wn.run rfl rfl rfl hq2) rfl (by repeat constructor) (Yl.load1 Tryz.isAgg2 rfl .head (by repeat constructor)) ?_
   refine Aq (i := 14) rfl (Wn.run rfl rfl rfl hq2) rfl (fun _ => Yl.geq rfl rfl) ?_
   refine Aq (i := 15) rfl (Wn.plain rfl) rfl (fun _ => Yl.pick_true rfl hq2 rfl) ?_
   refine Aq (i := 16) rfl (Wn.plain rfl) rfl (fun _ => Yl.move rfl) ?_
   refine AW.split (t := 19) rfl (fun hq3 => ?_) (fun hq3 => ?_)
   ·have hq3d := of_decide_eq_true hq3
    refine Aq (i := 17) rfl (Wn.run rfl rfl rfl hq3) rfl (fun _ => Yl.fieldL 0 (fa_105_0) rfl rfl) ?_
    refine Aq (i := 18) rfl (Wn.run rfl rfl rfl hq3) rfl (fun _ => Yl.fieldL 7 (fa_53_4) rfl rfl) ?_
    refine Al (i := 19) rfl (Wn.run rfl rfl rfl hq3) rfl (by repeat constructor) (Yl.load1 Tryz.isAgg2 rfl .head (by repeat constructor)) ?_
    refine Aq (i := 20) rfl (Wn.run rfl rfl rfl hq3) rfl (fun _ => Yl.leq rfl rfl) ?_
    refine Aq (i := 21) rfl (Wn.plain rfl) rfl (fun _ => Yl.pick_true rfl hq3 rfl) ?_
    refine Aq (i := 22) rfl (Wn.plain rfl) rfl (fun _ => Yl.move rfl) ?_
    refine AW.split (t := 25) rfl (fun hq4 => ?_) (fun hq4 => ?_)
    ·have hq4d := of_decide_eq_true hq4
     refine Aq (i := 23) rfl (Wn.run rfl rfl rfl hq4) rfl (fun _ => Yl.fieldL 0 (fa_105_0) rfl rfl) ?_
     refine Aq (i := 24) rfl (Wn.run rfl rfl rfl hq4) rfl (fun _ => Yl.fieldL 1 (fa_53_1) rfl rfl) ?_
     refine Al (i := 25) rfl (Wn.run rfl rfl rfl hq4) rfl (by repeat constructor) (Yl.load1 Tryz.isAgg50 rfl .head (by repeat constructor)) ?_
     refine AW.step (i := 26) rfl (by kernel_rfl) (Wn.run rfl rfl rfl hq4) rfl (Ex.call rfl rfl rfl (FnC.tri0 Tryz.call104 (c_rCheck _ _ _)) (by repeat constructor)) (.drop (by kernel_rfl) (.keep (by kernel_rfl) (.keep (by kernel_rfl) (.keep (by kernel_rfl) (.keep (by kernel_rfl) .nil))))) ?_
     rintro _ _ ⟨_, ⟨rfl, rfl⟩, rfl⟩; refine ⟨by repeat constructor, ?_⟩
     refine Aq (i := 27) rfl (Wn.run rfl rfl rfl hq4) rfl (fun _ => Yl.eql rfl rfl) ?_
     refine Aq (i := 28) rfl (Wn.plain rfl) rfl (fun _ => Yl.pick_true rfl hq4 rfl) ?_
     refine Aq (i := 29) rfl (Wn.plain rfl) rfl (fun _ => Yl.move rfl) ?_
     refine AW.split (t := 32) rfl (fun hq5 => ?_) (fun hq5 => ?_)
     ·have hq5d := of_decide_eq_true hq5
      have hr := ifr_t hq5d
      refine Aq (i := 31) rfl (Wn.run rfl rfl rfl hq5) rfl (fun _ => Yl.fieldL 0 (fa_105_0) rfl rfl) ?_
      refine Aq (i := 32) rfl (Wn.run rfl rfl rfl hq5) rfl (fun _ => Yl.fieldL 0 (fa_53_0) rfl rfl) ?_
      refine Al (i := 33) rfl (Wn.run rfl rfl rfl hq5) rfl (by repeat constructor) (Yl.load1 Tryz.isAgg3 rfl .head (by repeat constructor)) ?_
      refine Al (i := 36) rfl (Wn.run rfl rfl rfl hq5) rfl (by repeat constructor) (Yl.load ⟨Tryz.isAgg105, Tryz.sizeOf105⟩ rfl .head (by repeat constructor)) ?_
      refine AW.step (i := 30) rfl (by kernel_rfl) (Wn.run rfl rfl rfl hq5) rfl (Ex.call rfl rfl rfl (FnC.tri0 Tryz.call105 (c_kinds)) (by repeat constructor)) (.keep (by kernel_rfl) (.keep (by kernel_rfl) (.keep (by kernel_rfl) (.keep (by kernel_rfl) (.keep (by kernel_rfl) (.keep (by kernel_rfl) .nil)))))) ?_
      rintro _ _ ⟨_, ⟨rfl, rfl⟩, rfl⟩; refine ⟨by repeat constructor, ?_⟩
      rcases (show s.Kind = 1 ∨ s.Kind = 2 ∨ s.Kind = 3 ∨ s.Kind = 4 by omega) with hk | hk | hk | hk
      ·refine Aq (i := 34) rfl (Wn.run rfl rfl rfl hq5) rfl (fun _ => Yl.indexG 1 2 ⟨Tryz.underlying175, Tryz.sizeOf174⟩ ⟨Tryz.isAgg174, Tryz.sizeOf174⟩ rfl rfl hk (by decide) rfl (by repeat constructor) (by decide)) ?_
       refine Aq (i := 35) rfl (Wn.run rfl rfl rfl hq5) rfl (fun _ => Yl.fieldV Tryz.underlying174 rfl Tryz.isAgg171 rfl rfl (by repeat constructor)) ?_
       refine AW.step (i := 37) rfl (by kernel_rfl) (Wn.run rfl rfl rfl hq5) rfl (Ex.call rfl rfl rfl (FnC.triC Tryz.call159 (c_kinds1 _ _ (by assumption))) (by repeat constructor)) (.drop (by kernel_rfl) (.keep (by kernel_rfl) (.keep (by kernel_rfl) (.keep (by kernel_rfl) (.keep (by kernel_rfl) (.keep (by kernel_rfl) .nil)))))) ?_
       rintro _ _ ⟨_, ⟨rfl, rfl⟩, rfl⟩; refine ⟨by repeat constructor, ?_⟩
       refine Aq (i := 38) rfl (Wn.plain rfl) rfl (fun _ => Yl.pick_true rfl hq5 rfl) ?_
       refine Aq (i := 39) rfl (Wn.plain rfl) rfl (fun _ => Yl.assign rfl) ?_
       refine AW.done (by kernel_rfl) ?_
       refine W.ret ?_
       refine Fin.mk (Rsl.one rfl rfl) ⟨?_, rfl⟩ (by repeat constructor) (by repeat constructor)
       first | (rw [segM_4 (by omega) (by omega) hr]; first | (rw [kindM_1 hk]; done) | (rw [kindM_2 hk]; done) | (rw [kindM_3 hk]; done) | (rw [kindM_4 hk]; done)) | (rw [segM_1 (by omega)]; done) | (rw [segM_2 (by omega)]; done) | (rw [segM_3 (ifr_f (by assumption))]; done)
      ·refine Aq (i := 34) rfl (Wn.run rfl rfl rfl hq5) rfl (fun _ => Yl.indexG 2 4 ⟨Tryz.underlying175, Tryz.sizeOf174⟩ ⟨Tryz.isAgg174, Tryz.sizeOf174⟩ rfl rfl hk (by decide) rfl (by repeat constructor) (by decide)) ?_
       refine Aq (i := 35) rfl (Wn.run rfl rfl rfl hq5) rfl (fun _ => Yl.fieldV Tryz.underlying174 rfl Tryz.isAgg171 rfl rfl (by repeat constructor)) ?_
       refine AW.step (i := 37) rfl (by kernel_rfl) (Wn.run rfl rfl rfl hq5) rfl (Ex.call rfl rfl rfl (FnC.triC Tryz.call161 (c_kinds2 _ _ (by assumption))) (by repeat constructor)) (.drop (by kernel_rfl) (.keep (by kernel_rfl) (.keep (by kernel_rfl) (.keep (by kernel_rfl) (.keep (by kernel_rfl) (.keep (by kernel_rfl) .nil)))))) ?_
       rintro _ _ ⟨_, ⟨rfl, rfl⟩, rfl⟩; refine ⟨by repeat constructor, ?_⟩
       refine Aq (i := 38) rfl (Wn.plain rfl) rfl (fun _ => Yl.pick_true rfl hq5 rfl) ?_
       refine Aq (i := 39) rfl (Wn.plain rfl) rfl (fun _ => Yl.assign rfl) ?_
       refine AW.done (by kernel_rfl) ?_
       refine W.ret ?_
       refine Fin.mk (Rsl.one rfl rfl) ⟨?_, rfl⟩ (by repeat constructor) (by repeat constructor)
       first | (rw [segM_4 (by omega) (by omega) hr]; first | (rw [kindM_1 hk]; done) | (rw [kindM_2 hk]; done) | (rw [kindM_3 hk]; done) | (rw [kindM_4 hk]; done)) | (rw [segM_1 (by omega)]; done) | (rw [segM_2 (by omega)]; done) | (rw [segM_3 (ifr_f (by assumption))]; done)
      ·refine Aq (i := 34) rfl (Wn.run rfl rfl rfl hq5) rfl (fun _ => Yl.indexG 3 6 ⟨Tryz.underlying175, Tryz.sizeOf174⟩ ⟨Tryz.isAgg174, Tryz.sizeOf174⟩ rfl rfl hk (by decide) rfl (by repeat constructor) (by decide)) ?_
       refine Aq (i := 35) rfl (Wn.run rfl rfl rfl hq5) rfl (fun _ => Yl.fieldV Tryz.underlying174 rfl Tryz.isAgg171 rfl rfl (by repeat constructor)) ?_
       refine AW.step (i := 37) rfl (by kernel_rfl) (Wn.run rfl rfl rfl hq5) rfl (Ex.call rfl rfl rfl (FnC.triC Tryz.call162 (c_kinds3 _ _ (by assumption))) (by repeat constructor)) (.drop (by kernel_rfl) (.keep (by kernel_rfl) (.keep (by kernel_rfl) (.keep (by kernel_rfl) (.keep (by kernel_rfl) (.keep (by kernel_rfl) .nil)))))) ?_
       rintro _ _ ⟨_, ⟨rfl, rfl⟩, rfl⟩; refine ⟨by repeat constructor, ?_⟩
       refine Aq (i := 38) rfl (Wn.plain rfl) rfl (fun _ => Yl.pick_true rfl hq5 rfl) ?_
       refine Aq (i := 39) rfl (Wn.plain rfl) rfl (fun _ => Yl.assign rfl) ?_
       refine AW.done (by kernel_rfl) ?_
       refine W.ret ?_
       refine Fin.mk (Rsl.one rfl rfl) ⟨?_, rfl⟩ (by repeat constructor) (by repeat constructor)
       first | (rw [segM_4 (by omega) (by omega) hr]; first | (rw [kindM_1 hk]; done) | (rw [kindM_2 hk]; done) | (rw [kindM_3 hk]; done) | (rw [kindM_4 hk]; done)) | (rw [segM_1 (by omega)]; done) | (rw [segM_2 (by omega)]; done) | (rw [segM_3 (ifr_f (by assumption))]; done)
      ·refine Aq (i := 34) rfl (Wn.run rfl rfl rfl hq5) rfl (fun _ => Yl.indexG 4 8 ⟨Tryz.underlying175, Tryz.sizeOf174⟩ ⟨Tryz.isAgg174, Tryz.sizeOf174⟩ rfl rfl hk (by decide) rfl (by repeat constructor) (by decide)) ?_
       refine Aq (i := 35) rfl (Wn.run rfl rfl rfl hq5) rfl (fun _ => Yl.fieldV Tryz.underlying174 rfl Tryz.isAgg171 rfl rfl (by repeat constructor)) ?_
       refine AW.step (i := 37) rfl (by kernel_rfl) (Wn.run rfl rfl rfl hq5) rfl (Ex.call rfl rfl rfl (FnC.triC Tryz.call164 (c_rawIs _ _ (by assumption))) (by repeat constructor)) (.drop (by kernel_rfl) (.keep (by kernel_rfl) (.keep (by kernel_rfl) (.keep (by kernel_rfl) (.keep (by kernel_rfl) (.keep (by kernel_rfl) .nil)))))) ?_
       rintro _ _ ⟨_, ⟨rfl, rfl⟩, rfl⟩; refine ⟨by repeat constructor, ?_⟩
       refine Aq (i := 38) rfl (Wn.plain rfl) rfl (fun _ => Yl.pick_true rfl hq5 rfl) ?_
       refine Aq (i := 39) rfl (Wn.plain rfl) rfl (fun _ => Yl.assign rfl) ?_
       refine AW.done (by kernel_rfl) ?_
       refine W.ret ?_
       refine Fin.mk (Rsl.one rfl rfl) ⟨?_, rfl⟩ (by repeat constructor) (by repeat constructor)
       first | (rw [segM_4 (by omega) (by omega) hr]; first | (rw [kindM_1 hk]; done) | (rw [kindM_2 hk]; done) | (rw [kindM_3 hk]; done) | (rw [kindM_4 hk]; done)) | (rw [segM_1 (by omega)]; done) | (rw [segM_2 (by omega)]; done) | (rw [segM_3 (ifr_f (by assumption))]; done)
     ·have hq5d := of_decide_eq_false hq5
      refine AW.not (i := 30) rfl (by kernel_rfl) (by kernel_rfl) (by kernel_rfl) (Wn.not rfl rfl rfl hq5) rfl ?_
      refine AW.not (i := 31) rfl (by kernel_rfl) (by kernel_rfl) (by kernel_rfl) (Wn.not rfl rfl rfl hq5) rfl ?_
      refine AW.not (i := 32) rfl (by kernel_rfl) (by kernel_rfl) (by kernel_rfl) (Wn.not rfl rfl rfl hq5) rfl ?_
      refine AW.not (i := 33) rfl (by kernel_rfl) (by kernel_rfl) (by kernel_rfl) (Wn.not rfl rfl rfl hq5) rfl ?_
      refine AW.not (i := 34) rfl (by kernel_rfl) (by kernel_rfl) (by kernel_rfl) (Wn.not rfl rfl rfl hq5) rfl ?_
      refine AW.not (i := 35) rfl (by kernel_rfl) (by kernel_rfl) (by kernel_rfl) (Wn.not rfl rfl rfl hq5) rfl ?_
      refine AW.not (i := 36) rfl (by kernel_rfl) (by kernel_rfl) (by kernel_rfl) (Wn.not rfl rfl rfl hq5) rfl ?_
      refine AW.not (i := 37) rfl (by kernel_rfl) (by kernel_rfl) (by kernel_rfl) (Wn.not rfl rfl rfl hq5) rfl ?_
      refine Aq (i := 38) rfl (Wn.plain rfl) rfl (fun _ => Yl.pick_false rfl hq5 rfl) ?_
      refine Aq (i := 39) rfl (Wn.plain rfl) rfl (fun _ => Yl.assign rfl) ?_
      refine AW.done (by kernel_rfl) ?_
      refine W.ret ?_
      refine Fin.mk (Rsl.one rfl rfl) ⟨?_, rfl⟩ (by repeat constructor) (by repeat constructor)
      first | (rw [segM_4 (by omega) (by omega) hr]; first | (rw [kindM_1 hk]; done) | (rw [kindM_2 hk]; done) | (rw [kindM_3 hk]; done) | (rw [kindM_4 hk]; done)) | (rw [segM_1 (by omega)]; done) | (rw [segM_2 (by omega)]; done) | (rw [segM_3 (ifr_f (by assumption))]; done)
    ·have hq4d := of_decide_eq_false hq4
     refine AW.not (i := 23) rfl (by kernel_rfl) (by kernel_rfl) (by kernel_rfl) (Wn.not rfl rfl rfl hq4) rfl ?_
     refine AW.not (i := 24) rfl (by kernel_rfl) (by kernel_rfl) (by kernel_rfl) (Wn.not rfl rfl rfl hq4) rfl ?_
     refine AW.not (i := 25) rfl (by kernel_rfl) (by kernel_rfl) (by kernel_rfl) (Wn.not rfl rfl rfl hq4) rfl ?_
     refine AW.not (i := 26) rfl (by kernel_rfl) (by kernel_rfl) (by kernel_rfl) (Wn.not rfl rfl rfl hq4) rfl ?_
     refine AW.not (i := 27) rfl (by kernel_rfl) (by kernel_rfl) (by kernel_rfl) (Wn.not rfl rfl rfl hq4) rfl ?_
     refine Aq (i := 28) rfl (Wn.plain rfl) rfl (fun _ => Yl.pick_false rfl hq4 rfl) ?_
     refine Aq (i := 29) rfl (Wn.plain rfl) rfl (fun _ => Yl.move rfl) ?_
     refine AW.not (i := 30) rfl (by kernel_rfl) (by kernel_rfl) (by kernel_rfl) (Wn.not rfl rfl rfl rfl) rfl ?_
     refine AW.not (i := 31) rfl (by kernel_rfl) (by kernel_rfl) (by kernel_rfl) (Wn.not rfl rfl rfl rfl) rfl ?_
     refine AW.not (i := 32) rfl (by kernel_rfl) (by kernel_rfl) (by kernel_rfl) (Wn.not rfl rfl rfl rfl) rfl ?_
     refine AW.not (i := 33) rfl (by kernel_rfl) (by kernel_rfl) (by kernel_rfl) (Wn.not rfl rfl rfl rfl) rfl ?_
     refine AW.not (i := 34) rfl (by kernel_rfl) (by kernel_rfl) (by kernel_rfl) (Wn.not rfl rfl rfl rfl) rfl ?_
     refine AW.not (i := 35) rfl (by kernel_rfl) (by kernel_rfl) (by kernel_rfl) (Wn.not rfl rfl rfl rfl) rfl ?_
     refine AW.not (i := 36) rfl (by kernel_rfl) (by kernel_rfl) (by kernel_rfl) (Wn.not rfl rfl rfl rfl) rfl ?_
     refine AW.not (i := 37) rfl (by kernel_rfl) (by kernel_rfl) (by kernel_rfl) (Wn.not rfl rfl rfl rfl) rfl ?_
     refine Aq (i := 38) rfl (Wn.plain rfl) rfl (fun _ => Yl.pick_false rfl rfl rfl) ?_
     refine Aq (i := 39) rfl (Wn.plain rfl) rfl (fun _ => Yl.assign rfl) ?_
     refine AW.done (by kernel_rfl) ?_
     refine W.ret ?_
     refine Fin.mk (Rsl.one rfl rfl) ⟨?_, rfl⟩ (by repeat constructor) (by repeat constructor)
     first | (rw [segM_4 (by omega) (by omega) hr]; first | (rw [kindM_1 hk]; done) | (rw [kindM_2 hk]; done) | (rw [kindM_3 hk]; done) | (rw [kindM_4 hk]; done)) | (rw [segM_1 (by omega)]; done) | (rw [segM_2 (by omega)]; done) | (rw [segM_3 (ifr_f (by assumption))]; done)
   ·have hq3d := of_decide_eq_false hq3
    refine AW.not (i := 17) rfl (by kernel_rfl) (by kernel_rfl) (by kernel_rfl) (Wn.not rfl rfl rfl hq3) rfl ?_
    refine AW.not (i := 18) rfl (by kernel_rfl) (by kernel_rfl) (by kernel_rfl) (Wn.not rfl rfl rfl hq3) rfl ?_
    refine AW.not (i := 19) rfl (by kernel_rfl) (by kernel_rfl) (by kernel_rfl) (Wn.not rfl rfl rfl hq3) rfl ?_
    refine AW.not (i := 20) rfl (by kernel_rfl) (by kernel_rfl) (by kernel_rfl) (Wn.not rfl rfl rfl hq3) rfl ?_
    refine Aq (i := 21) rfl (Wn.plain rfl) rfl (fun _ => Yl.pick_false rfl hq3 rfl) ?_
    refine Aq (i := 22) rfl (Wn.plain rfl) rfl (fun _ => Yl.move rfl) ?_
    refine AW.not (i := 23) rfl (by kernel_rfl) (by kernel_rfl) (by kernel_rfl) (Wn.not rfl rfl rfl rfl) rfl ?_
    refine AW.not (i := 24) rfl (by kernel_rfl) (by kernel_rfl) (by kernel_rfl) (Wn.not rfl rfl rfl rfl) rfl ?_
    refine AW.not (i := 25) rfl (by kernel_rfl) (by kernel_rfl) (by kernel_rfl) (Wn.not rfl rfl rfl rfl) rfl ?_
    refine AW.not (i := 26) rfl (by kernel_rfl) (by kernel_rfl) (by kernel_rfl) (Wn.not rfl rfl rfl rfl) rfl ?_
    refine AW.not (i := 27) rfl (by kernel_rfl) (by kernel_rfl) (by kernel_rfl) (Wn.not rfl rfl rfl rfl) rfl ?_
    refine Aq (i := 28) rfl (Wn.plain rfl) rfl (fun _ => Yl.pick_false rfl rfl rfl) ?_
    refine Aq (i := 29) rfl (Wn.plain rfl) rfl (fun _ => Yl.move rfl) ?_
    refine AW.not (i := 30) rfl (by kernel_rfl) (by kernel_rfl) (by kernel_rfl) (Wn.not rfl rfl rfl rfl) rfl ?_
    refine AW.not (i := 31) rfl (by kernel_rfl) (by kernel_rfl) (by kernel_rfl) (Wn.not rfl rfl rfl rfl) rfl ?_
    refine AW.not (i := 32) rfl (by kernel_rfl) (by kernel_rfl) (by kernel_rfl) (Wn.not rfl rfl rfl rfl) rfl ?_
    refine AW.not (i := 33) rfl (by kernel_rfl) (by kernel_rfl) (by kernel_rfl) (Wn.not rfl rfl rfl rfl) rfl ?_
    refine AW.not (i := 34) rfl (by kernel_rfl) (by kernel_rfl) (by kernel_rfl) (Wn.not rfl rfl rfl rfl) rfl ?_
    refine AW.not (i := 35) rfl (by kernel_rfl) (by kernel_rfl) (by kernel_rfl) (Wn.not rfl rfl rfl rfl) rfl ?_
    refine AW.not (i := 36) rfl (by kernel_rfl) (by kernel_rfl) (by kernel_rfl) (Wn.not rfl rfl rfl rfl) rfl ?_
    refine AW.not (i := 37) rfl (by kernel_rfl) (by kernel_rfl) (by kernel_rfl) (Wn.not rfl rfl rfl rfl) rfl ?_
    refine Aq (i := 38) rfl (Wn.plain rfl) rfl (fun _ => Yl.pick_false rfl rfl rfl) ?_
    refine Aq (i := 39) rfl (Wn.plain rfl) rfl (fun _ => Yl.assign rfl) ?_
    refine AW.done (by kernel_rfl) ?_
    refine W.ret ?_
    refine Fin.mk (Rsl.one rfl rfl) ⟨?_, rfl⟩ (by repeat constructor) (by repeat constructor)
    first | (rw [segM_4 (by omega) (by omega) hr]; first | (rw [kindM_1 hk]; done) | (rw [kindM_2 hk]; done) | (rw [kindM_3 hk]; done) | (rw [kindM_4 hk]; done)) | (rw [segM_1 (by omega)]; done) | (rw [segM_2 (by omega)]; done) | (rw [segM_3 (ifr_f (by assumption))]; done)
  ·have hq2d := of_decide_eq_false hq2
   refine AW.not (i := 11) rfl (by kernel_rfl) (by kernel_rfl) (by kernel_rfl) (Wn.not rfl rfl rfl hq2) rfl ?_
   refine AW.not (i := 12) rfl (by kernel_rfl) (by kernel_rfl) (by kernel_rfl) (Wn.not rfl rfl rfl hq2) rfl ?_
   refine AW.not (i := 13) rfl (by kernel_rfl) (by kernel_rfl) (by kernel_rfl) (Wn.not rfl rfl rfl hq2) rfl ?_
   refine AW.not (i := 14) rfl (by kernel_rfl) (by kernel_rfl) (by kernel_rfl) (Wn.not rfl rfl rfl hq2) rfl ?_
   refine Aq (i := 15) rfl (Wn.plain rfl) rfl (fun _ => Yl.pick_false rfl hq2 rfl) ?_
   refine Aq (i := 16) rfl (Wn.plain rfl) rfl (fun _ => Yl.move rfl) ?_
   refine AW.not (i := 17) rfl (by kernel_rfl) (by kernel_rfl) (by kernel_rfl) (Wn.not rfl rfl rfl rfl) rfl ?_
   refine AW.not (i := 18) rfl (by kernel_rfl) (by kernel_rfl) (by kernel_rfl) (Wn.not rfl rfl rfl rfl) rfl ?_
   refine AW.not (i := 19) rfl (by kernel_rfl) (by kernel_rfl) (by kernel_rfl) (Wn.not rfl rfl rfl rfl) rfl ?_
   refine AW.not (i := 20) rfl (by kernel_rfl) (by kernel_rfl) (by kernel_rfl) (Wn.not rfl rfl rfl rfl) rfl ?_
   refine Aq (i := 21) rfl (Wn.plain rfl) rfl (fun _ => Yl.pick_false rfl rfl rfl) ?_
   refine Aq (i := 22) rfl (Wn.plain rfl) rfl (fun _ => Yl.move rfl) ?_
   refine AW.not (i := 23) rfl (by kernel_rfl) (by kernel_rfl) (by kernel_rfl) (Wn.not rfl rfl rfl rfl) rfl ?_
   refine AW.not (i := 24) rfl (by kernel_rfl) (by kernel_rfl) (by kernel_rfl) (Wn.not rfl rfl rfl rfl) rfl ?_
   refine AW.not (i := 25) rfl (by kernel_rfl) (by kernel_rfl) (by kernel_rfl) (Wn.not rfl rfl rfl rfl) rfl ?_
   refine AW.not (i := 26) rfl (by kernel_rfl) (by kernel_rfl) (by kernel_rfl) (Wn.not rfl rfl rfl rfl) rfl ?_
   refine AW.not (i := 27) rfl (by kernel_rfl) (by kernel_rfl) (by kernel_rfl) (Wn.not rfl rfl rfl rfl) rfl ?_
   refine Aq (i := 28) rfl (Wn.plain rfl) rfl (fun _ => Yl.pick_false rfl rfl rfl) ?_
   refine Aq (i := 29) rfl (Wn.plain rfl) rfl (fun _ => Yl.move rfl) ?_
   refine AW.not (i := 30) rfl (by kernel_rfl) (by kernel_rfl) (by kernel_rfl) (Wn.not rfl rfl rfl rfl) rfl ?_
   refine AW.not (i := 31) rfl (by kernel_rfl) (by kernel_rfl) (by kernel_rfl) (Wn.not rfl rfl rfl rfl) rfl ?_
   refine AW.not (i := 32) rfl (by kernel_rfl) (by kernel_rfl) (by kernel_rfl) (Wn.not rfl rfl rfl rfl) rfl ?_
   refine AW.not (i := 33) rfl (by kernel_rfl) (by kernel_rfl) (by kernel_rfl) (Wn.not rfl rfl rfl rfl) rfl ?_
   refine AW.not (i := 34) rfl (by kernel_rfl) (by kernel_rfl) (by kernel_rfl) (Wn.not rfl rfl rfl rfl) rfl ?_
   refine AW.not (i := 35) rfl (by kernel_rfl) (by kernel_rfl) (by kernel_rfl) (Wn.not rfl rfl rfl rfl) rfl ?_
   refine AW.not (i := 36) rfl (by kernel_rfl) (by kernel_rfl) (by kernel_rfl) (Wn.not rfl rfl rfl rfl) rfl ?_
   refine AW.not (i := 37) rfl (by kernel_rfl) (by kernel_rfl) (by kernel_rfl) (Wn.not rfl rfl rfl rfl) rfl ?_
   refine Aq (i := 38) rfl (Wn.plain rfl) rfl (fun _ => Yl.pick_false rfl rfl rfl) ?_
   refine Aq (i := 39) rfl (Wn.plain rfl) rfl (fun _ => Yl.assign rfl) ?_
   refine AW.done (by kernel_rfl) ?_
   refine W.ret ?_
   refine Fin.mk (Rsl.one rfl rfl) ⟨?_, rfl⟩ (by repeat constructor) (by repeat constructor)
   first | (rw [segM_4 (by omega) (by omega) hr]; first | (rw [kindM_1 hk]; done) | (rw [kindM_2 hk]; done) | (rw [kindM_3 hk]; done) | (rw [kindM_4 hk]; done)) | (rw [segM_1 (by omega)]; done) | (rw [segM_2 (by omega)]; done) | (rw [segM_3 (ifr_f (by assumption))]; done)
 ·have hq1d := of_decide_eq_false hq1
  refine AW.not (i := 5) rfl (by kernel_rfl) (by kernel_rfl) (by kernel_rfl) (Wn.not rfl rfl rfl hq1) rfl ?_
  refine AW.not (i := 6) rfl (by kernel_rfl) (by kernel_rfl) (by kernel_rfl) (Wn.not rfl rfl rfl hq1) rfl ?_
  refine AW.not (i := 7) rfl (by kernel_rfl) (by kernel_rfl) (by kernel_rfl) (Wn.not rfl rfl rfl hq1) rfl ?_
  refine AW.not (i := 8) rfl (by kernel_rfl) (by kernel_rfl) (by kernel_rfl) (Wn.not rfl rfl rfl hq1) rfl ?_
  refine Aq (i := 9) rfl (Wn.plain rfl) rfl (fun _ => Yl.pick_false rfl hq1 rfl) ?_
  refine Aq (i := 10) rfl (Wn.plain rfl) rfl (fun _ => Yl.move rfl) ?_
  refine AW.not (i := 11) rfl (by kernel_rfl) (by kernel_rfl) (by kernel_rfl) (Wn.not rfl rfl rfl rfl) rfl ?_
  refine AW.not (i := 12) rfl (by kernel_rfl) (by kernel_rfl) (by kernel_rfl) (Wn.not rfl rfl rfl rfl) rfl ?_
  refine AW.not (i := 13) rfl (by kernel_rfl) (by kernel_rfl) (by kernel_rfl) (Wn.not rfl rfl rfl rfl) rfl ?_
  refine AW.not (i := 14) rfl (by kernel_rfl) (by kernel_rfl) (by kernel_rfl) (Wn.not rfl rfl rfl rfl) rfl ?_
  refine Aq (i := 15) rfl (Wn.plain rfl) rfl (fun _ => Yl.pick_false rfl rfl rfl) ?_
  refine Aq (i := 16) rfl (Wn.plain rfl) rfl (fun _ => Yl.move rfl) ?_
  refine AW.not (i := 17) rfl (by kernel_rfl) (by kernel_rfl) (by kernel_rfl) (Wn.not rfl rfl rfl rfl) rfl ?_
  refine AW.not (i := 18) rfl (by kernel_rfl) (by kernel_rfl) (by kernel_rfl) (Wn.not rfl rfl rfl rfl) rfl ?_
  refine AW.not (i := 19) rfl (by kernel_rfl) (by kernel_rfl) (by kernel_rfl) (Wn.not rfl rfl rfl rfl) rfl ?_
  refine AW.not (i := 20) rfl (by kernel_rfl) (by kernel_rfl) (by kernel_rfl) (Wn.not rfl rfl rfl rfl) rfl ?_
  refine Aq (i := 21) rfl (Wn.plain rfl) rfl (fun _ => Yl.pick_false rfl rfl rfl) ?_
  refine Aq (i := 22) rfl (Wn.plain rfl) rfl (fun _ => Yl.move rfl) ?_
  refine AW.not (i := 23) rfl (by kernel_rfl) (by kernel_rfl) (by kernel_rfl) (Wn.not rfl rfl rfl rfl) rfl ?_
  refine AW.not (i := 24) rfl (by kernel_rfl) (by kernel_rfl) (by kernel_rfl) (Wn.not rfl rfl rfl rfl) rfl ?_
  refine AW.not (i := 25) rfl (by kernel_rfl) (by kernel_rfl) (by kernel_rfl) (Wn.not rfl rfl rfl rfl) rfl ?_
  refine AW.not (i := 26) rfl (by kernel_rfl) (by kernel_rfl) (by kernel_rfl) (Wn.not rfl rfl rfl rfl) rfl ?_
  refine AW.not (i := 27) rfl (by kernel_rfl) (by kernel_rfl) (by kernel_rfl) (Wn.not rfl rfl rfl rfl) rfl ?_
  refine Aq (i := 28) rfl (Wn.plain rfl) rfl (fun _ => Yl.pick_false rfl rfl rfl) ?_
  refine Aq (i := 29) rfl (Wn.plain rfl) rfl (fun _ => Yl.move rfl) ?_
  refine AW.not (i := 30) rfl (by kernel_rfl) (by kernel_rfl) (by kernel_rfl) (Wn.not rfl rfl rfl rfl) rfl ?_
  refine AW.not (i := 31) rfl (by kernel_rfl) (by kernel_rfl) (by kernel_rfl) (Wn.not rfl rfl rfl rfl) rfl ?_
  refine AW.not (i := 32) rfl (by kernel_rfl) (by kernel_rfl) (by kernel_rfl) (Wn.not rfl rfl rfl rfl) rfl ?_
  refine AW.not (i := 33) rfl (by kernel_rfl) (by kernel_rfl) (by kernel_rfl) (Wn.not rfl rfl rfl rfl) rfl ?_
  refine AW.not (i := 34) rfl (by kernel_rfl) (by kernel_rfl) (by kernel_rfl) (Wn.not rfl rfl rfl rfl) rfl ?_
  refine AW.not (i := 35) rfl (by kernel_rfl) (by kernel_rfl) (by kernel_rfl) (Wn.not rfl rfl rfl rfl) rfl ?_
  refine AW.not (i := 36) rfl (by kernel_rfl) (by kernel_rfl) (by kernel_rfl) (Wn.not rfl rfl rfl rfl) rfl ?_
  refine AW.not (i := 37) rfl (by kernel_rfl) (by kernel_rfl) (by kernel_rfl) (Wn.not rfl rfl rfl rfl) rfl ?_
  refine Aq (i := 38) rfl (Wn.plain rfl) rfl (fun _ => Yl.pick_false rfl rfl rfl) ?_
  refine Aq (i := 39) rfl (Wn.plain rfl) rfl (fun _ => Yl.assign rfl) ?_
  refine AW.done (by kernel_rfl) ?_
  refine W.ret ?_
  refine Fin.mk (Rsl.one rfl rfl) ⟨?_, rfl⟩ (by repeat constructor) (by repeat constructor)
  first | (rw [segM_4 (by omega) (by omega) hr]; first | (rw [kindM_1 hk]; done) | (rw [kindM_2 hk]; done) | (rw [kindM_3 hk]; done) | (rw [kindM_4 hk]; done)) | (rw [segM_1 (by omega)]; done) | (rw [segM_2 (by omega)]; done) | (rw [segM_3 (ifr_f (by assumption))]; done)
theorem c_cloneR (l : List Rn) (a : Option Addr) (c : Nat) (hl : l.length ≤ 4000) : FnC Tryz.prog 55 #[.slice a l.length c] [rowI 3 encR l a c] (RetRow 3 encR l) := by
 refine FnC.go (m := 8) Tryz.func55 Tryz.ntmps55 rfl (Nat.le_of_ble_eq_true rfl) (fun Lf => ?_)
 refine Wr ?_
 refine Oy rfl (Yl.assign rfl) ?_
 refine OW.nil ?_
 refine W.seq ?_
 refine Wr ?_
 refine Oy rfl (Yl.move rfl) ?_
 refine Oy rfl (Yl.eqnilS Tryz.underlying50 rfl) ?_
 refine OW.nil ?_
 refine W.cond rfl (fun hq1 => ?_) (fun hq1 => ?_)
 ·obtain rfl : a = none := (by cases a <;> simp_all)
  refine W.fact (Sl.nil_len (by repeat constructor)) ?_
  intro h0
  obtain rfl : l = [] := List.eq_nil_of_length_eq_zero h0
  refine Wr ?_
  refine Oy rfl (Yl.assign rfl) ?_
  refine OW.nil ?_
  refine W.ret ?_
  first | (refine Fin.ent (Ent.sealP (f := encR) (E := 96) (sz := 3) (by repeat constructor) (fun _ => rfl)) ?_; exact Fin.mk (Rsl.one rfl rfl) ⟨_, _, rfl, rfl⟩ (by repeat constructor) (by repeat constructor)) | exact Fin.ent (rowI.nil 3 encR) (Fin.mk (Rsl.one rfl rfl) ⟨_, _, rfl, rfl⟩ (by repeat constructor) (by repeat constructor))
 ·refine W.skip ?_
  refine Wr ?_
  refine OW.lit (is := []) (xs := []) (Wn.plain rfl) rfl rw_50 rfl rfl rfl (by decide) (by repeat constructor) (fun b1 => ?_)
  refine OW.ent (Ent.lit0 (sz := 3) encR) ?_
  refine Oy rfl (Yl.move rfl) ?_
  refine OW.appS  (Wn.plain rfl) rfl rw_50 rfl rfl (by repeat constructor) ⟨_, by repeat constructor⟩ (fun _ => rfl) (fun _ => by repeat constructor) (by simp; omega) (by simp; omega) (fun a1 c1 => ?_)
  refine Oy rfl (Yl.assign rfl) ?_
  refine OW.nil ?_
  refine W.ret ?_
  first | (refine Fin.ent (Ent.sealP (f := encR) (E := 96) (sz := 3) (by repeat constructor) (fun _ => rfl)) ?_; exact Fin.mk (Rsl.one rfl rfl) ⟨_, _, rfl, rfl⟩ (by repeat constructor) (by repeat constructor)) | exact Fin.ent (rowI.nil 3 encR) (Fin.mk (Rsl.one rfl rfl) ⟨_, _, rfl, rfl⟩ (by repeat constructor) (by repeat constructor))
theorem c_cloneI (l : List Int) (a : Option Addr) (c : Nat) (hl : l.length ≤ 4000) : FnC Tryz.prog 56 #[.slice a l.length c] [rowI 1 encI l a c] (RetRow 1 encI l) := by
 refine FnC.go (m := 8) Tryz.func56 Tryz.ntmps56 rfl (Nat.le_of_ble_eq_true rfl) (fun Lf => ?_)
 refine Wr ?_
 refine Oy rfl (Yl.assign rfl) ?_
 refine OW.nil ?_
 refine W.seq ?_
 refine Wr ?_
 refine Oy rfl (Yl.move rfl) ?_
 refine Oy rfl (Yl.eqnilS Tryz.underlying51 rfl) ?_
 refine OW.nil ?_
 refine W.cond rfl (fun hq1 => ?_) (fun hq1 => ?_)
 ·obtain rfl : a = none := (by cases a <;> simp_all)
  refine W.fact (Sl.nil_len (by repeat constructor)) ?_
  intro h0
  obtain rfl : l = [] := List.eq_nil_of_length_eq_zero h0
  refine Wr ?_
  refine Oy rfl (Yl.assign rfl) ?_
  refine OW.nil ?_
  refine W.ret ?_
  first | (refine Fin.ent (Ent.sealP (f := encI) (E := 2) (sz := 1) (by repeat constructor) (fun _ => rfl)) ?_; exact Fin.mk (Rsl.one rfl rfl) ⟨_, _, rfl, rfl⟩ (by repeat constructor) (by repeat constructor)) | exact Fin.ent (rowI.nil 1 encI) (Fin.mk (Rsl.one rfl rfl) ⟨_, _, rfl, rfl⟩ (by repeat constructor) (by repeat constructor))
 ·refine W.skip ?_
  refine Wr ?_
  refine OW.lit (is := []) (xs := []) (Wn.plain rfl) rfl rw_51 rfl rfl rfl (by decide) (by repeat constructor) (fun b1 => ?_)
  refine OW.ent (Ent.lit0 (sz := 1) encI) ?_
  refine Oy rfl (Yl.move rfl) ?_
  refine OW.appS  (Wn.plain rfl) rfl rw_51 rfl rfl (by repeat constructor) ⟨_, by repeat constructor⟩ (fun _ => rfl) (fun _ => by repeat constructor) (by simp; omega) (by simp; omega) (fun a1 c1 => ?_)
  refine Oy rfl (Yl.assign rfl) ?_
  refine OW.nil ?_
  refine W.ret ?_
  first | (refine Fin.ent (Ent.sealP (f := encI) (E := 2) (sz := 1) (by repeat constructor) (fun _ => rfl)) ?_; exact Fin.mk (Rsl.one rfl rfl) ⟨_, _, rfl, rfl⟩ (by repeat constructor) (by repeat constructor)) | exact Fin.ent (rowI.nil 1 encI) (Fin.mk (Rsl.one rfl rfl) ⟨_, _, rfl, rfl⟩ (by repeat constructor) (by repeat constructor))
end Go.Yb
