/-
  A part of the proof of windowLine_holds: see the text that holds it. No conditions of its own.
-/
import Derived.Test.YtbfhhinhjgdgpaaGreatDoorSpan
namespace Go.Yb
open Go Go.Proofs Go.RowKit

/-! pmc: constants that go through bands -/
structure Bnd where
  T : Int
  Lo : Int
  Hi : Int
  deriving DecidableEq
def encB (b : Bnd) : List Value := [.int .i64 b.T, .int .i64 b.Lo, .int .i64 b.Hi]
def okB (last : Int) (b : Bnd) : Bool := decide (last < b.T) && decide (b.T ≤ 281474976710656) && decide (b.Lo ≤ b.Hi) && backM b.Lo && backM b.Hi
def chkB : Int → List Bnd → Bool
  | _, [] => true
  | last, b :: bs => okB last b && chkB b.T bs
def bandsM (l : List Bnd) : Bool := decide (1 ≤ l.length ∧ l.length ≤ 256) && chkB (-1) l
structure Com where
  sp : Spn
  some : Bool
  deriving DecidableEq
def encC (c : Com) : List Value := [.int .i64 c.sp.Lo, .int .i64 c.sp.Hi, .bool c.some]
def takesM (c : Com) (b : Bnd) : Option Com :=
  if c.some then match togM metM [c.sp, ⟨b.Lo, b.Hi⟩] with | none => none | some s => some ⟨s, true⟩
  else some ⟨⟨b.Lo, b.Hi⟩, true⟩
def longM : Com → Nat → List Bnd → Com × Nat
  | c, n, [] => (c, n)
  | c, n, b :: bs => match takesM c b with | none => (c, n) | some c' => longM c' (n + 1) bs
def com0 : Com := ⟨⟨0, 0⟩, false⟩
def cutF : Nat → List Bnd → List (List Bnd)
  | 0, _ => []
  | _ + 1, [] => []
  | k + 1, b :: bs => (b :: bs).take (longM com0 0 (b :: bs)).2 :: cutF k ((b :: bs).drop (longM com0 0 (b :: bs)).2)
def cutM (l : List Bnd) : List (List Bnd) := cutF l.length l
def encN (n : Nat) : List Value := [.int .i64 (n : Int)]
theorem c_pback (n : Int) : FnV Tryz.prog 239 #[.int .i64 n] [] (.bool (backM n)) := by
 refine FnC.go (m := 9) Tryz.func239 Tryz.ntmps239 rfl (Nat.le_of_ble_eq_true rfl) (fun Lf => ?_)
 refine Wr ?_
 refine Oy rfl (Yl.assign rfl) ?_
 refine OW.nil ?_
 refine Wr ?_
 refine Oy rfl (Yl.move rfl) ?_
 refine Oy rfl (Yl.geq rfl rfl) ?_
 refine Oy rfl (Yl.move rfl) ?_
 refine OW.split (t := 5) rfl (fun hq1 => ?_) (fun hq1 => ?_)
 ·have hq1d := of_decide_eq_true hq1
  refine OW.yl (Wn.run rfl rfl rfl hq1) rfl (Yl.move rfl) ?_
  refine OW.yl (Wn.run rfl rfl rfl hq1) rfl (Yl.leq rfl rfl) ?_
  refine Oy rfl (Yl.pick_true rfl hq1 rfl) ?_
  refine Oy rfl (Yl.assign rfl) ?_
  refine OW.nil ?_
  refine W.ret ?_
  refine Fin.mk (Rsl.one rfl rfl) ⟨?_, rfl⟩ (by repeat constructor) (by repeat constructor)
  simp [backM]; omega
 ·have hq1d := of_decide_eq_false hq1
  refine OW.not (Wn.not rfl rfl rfl hq1) rfl ?_
  refine OW.not (Wn.not rfl rfl rfl hq1) rfl ?_
  refine Oy rfl (Yl.pick_false rfl hq1 rfl) ?_
  refine Oy rfl (Yl.assign rfl) ?_
  refine OW.nil ?_
  refine W.ret ?_
  refine Fin.mk (Rsl.one rfl rfl) ⟨?_, rfl⟩ (by repeat constructor) (by repeat constructor)
  simp [backM]; omega

theorem chk_split (last : Int) (b : Bnd) (bs : List Bnd) : chkB last (b :: bs) = (okB last b && chkB b.T bs) := rfl
theorem ok_no {last : Int} {b : Bnd} (h : okB last b = false) (bs : List Bnd) : chkB last (b :: bs) = false := by simp [chkB, h]

theorem c_pCheck (l : List Bnd) (a : Option Addr) (c : Nat) : FnV Tryz.prog 183 #[.slice a l.length c] [rowI 3 encB l a c] (.int .i64 (if bandsM l then 0 else 180)) := by
 refine FnC.go (m := 51) Tryz.func183 Tryz.ntmps183 rfl (Nat.le_of_ble_eq_true rfl) (fun Lf => ?_)
 refine Wr ?_
 refine Oy rfl (Yl.assign rfl) ?_
 refine OW.nil ?_
 refine W.seq ?_
 refine Wr ?_
 refine Oy rfl (Yl.move rfl) ?_
 refine Oy rfl (Yl.len ⟨Tryz.underlying38, Tryz.sizeOf42⟩ rfl) ?_
 refine Oy rfl (Yl.eql rfl rfl) ?_
 refine Oy rfl (Yl.move rfl) ?_
 refine OW.split (t := 9) rfl (fun hq1 => ?_) (fun hq1 => ?_)
 ·have hq1d := of_decide_eq_true hq1
  refine OW.not (Wn.not rfl rfl rfl hq1) rfl ?_
  refine OW.not (Wn.not rfl rfl rfl hq1) rfl ?_
  refine OW.not (Wn.not rfl rfl rfl hq1) rfl ?_
  refine Oy rfl (Yl.pick_true rfl hq1 rfl) ?_
  refine OW.nil ?_
  refine W.cond_true rfl ?_
  refine Wr ?_
  refine Oy rfl (Yl.assign rfl) ?_
  refine OW.nil ?_
  refine W.ret ?_
  refine Fin.mk (Rsl.one rfl rfl) ⟨?_, rfl⟩ (by repeat constructor) (by repeat constructor)
  refine intv ?_
  simp_all [bandsM] <;> omega
 ·have hq1d := of_decide_eq_false hq1
  refine OW.yl (Wn.run rfl rfl rfl hq1) rfl (Yl.move rfl) ?_
  refine OW.yl (Wn.run rfl rfl rfl hq1) rfl (Yl.len ⟨Tryz.underlying38, Tryz.sizeOf42⟩ rfl) ?_
  refine OW.yl (Wn.run rfl rfl rfl hq1) rfl (Yl.gtr rfl rfl) ?_
  refine Oy rfl (Yl.pick_false rfl hq1 rfl) ?_
  refine OW.nil ?_
  refine W.cond rfl (fun hq2 => ?_) (fun hq2 => ?_)
  ·have hq2d := of_decide_eq_true hq2
   refine Wr ?_
   refine Oy rfl (Yl.assign rfl) ?_
   refine OW.nil ?_
   refine W.ret ?_
   refine Fin.mk (Rsl.one rfl rfl) ⟨?_, rfl⟩ (by repeat constructor) (by repeat constructor)
   refine intv ?_
   simp_all [bandsM] <;> omega
  ·have hq2d := of_decide_eq_false hq2
   refine W.skip ?_
   refine Wr ?_
   refine Oy rfl (Yl.assign rfl) ?_
   refine OW.nil ?_
   refine W.seq ?_
   refine Wr ?_
   refine Oy rfl (Yl.move rfl) ?_
   refine Oy rfl (Yl.len ⟨Tryz.underlying38, Tryz.sizeOf42⟩ rfl) ?_
   refine Oy rfl (Yl.move rfl) ?_
   refine OW.nil ?_
   refine W.block ?_
   refine W.loopS (X := (Nat) × (Int)) (fun (x : (Nat) × (Int)) => match x with | (i, last) => (i ≤ l.length ∧ (chkB (-1) l = chkB last (l.drop i)) : Prop)) (fun (x : (Nat) × (Int)) => match x with | (i, last) => ([(16, .int .i64 (i : Int)), (3, .int .i64 last)] : Env)) (fun (x : (Nat) × (Int)) => match x with | (i, last) => ([] : List Res)) (fun (x : (Nat) × (Int)) => match x with | (i, last) => (l.length - i : Nat)) (0, -1) [(14, _), (15, _)] (by simp) (Le.cons rfl (Le.cons rfl (Le.cons rfl (Le.cons rfl (Le.nil _))))) (by repeat constructor) ?_
   rintro ⟨i, last⟩ ⟨hi, hinv⟩
   show W _ _ _ _ _ _ ([(16, .int .i64 (i : Int)), (3, .int .i64 last)] ++ _) _ ([] ++ _)
   refine Wr ?_
   refine Oy rfl (Yl.lss rfl rfl) ?_
   refine OW.nil ?_
   refine W.seq ?_
   refine W.cond rfl (fun hq3 => ?_) (fun hq3 => ?_)
   ·have hq3d := of_decide_eq_true hq3
    obtain ⟨y, hy, hdr⟩ := drop_at (l := l) (i := i) (by omega)
    rw [hdr] at hinv
    refine W.skip ?_
    refine W.seq ?_
    refine W.block ?_
    refine Wr ?_
    refine OW.fact (Sl.isSome (by repeat constructor) (by omega)) ?_
    rintro ⟨p1, hp1⟩; try dsimp only at hp1
    subst hp1
    refine Oy rfl (Yl.indexS i ⟨Tryz.underlying38, Tryz.sizeOf42⟩ rfl rfl rfl (by omega)) ?_
    refine Oy rfl (Yl.loadE ⟨Tryz.isAgg42, Tryz.sizeOf42⟩ rfl (by repeat constructor) (map_at hy)) ?_
    refine OW.alloc (Wn.plain rfl) rfl Tryz.zeroValue42 (by constructor) (fun b1 => ?_)
    refine OW.store (Wn.plain rfl) Tryz.sizeOf42 rfl rfl (by constructor) (by repeat constructor) rfl (by repeat constructor) (by repeat constructor) ?_
    refine OW.nil ?_
    refine W.seq ?_
    refine Wr ?_
    refine Oy rfl (Yl.fieldL 0 (fa_42_0) rfl rfl) ?_
    refine Oy rfl (Yl.load1 Tryz.isAgg2 rfl (by repeat constructor) (by repeat constructor)) ?_
    refine Oy rfl (Yl.move rfl) ?_
    refine Oy rfl (Yl.leq rfl rfl) ?_
    refine Oy rfl (Yl.move rfl) ?_
    refine OW.split (t := 24) rfl (fun hq4 => ?_) (fun hq4 => ?_)
    ·have hq4d := of_decide_eq_true hq4
     refine OW.not (Wn.not rfl rfl rfl hq4) rfl ?_
     refine OW.not (Wn.not rfl rfl rfl hq4) rfl ?_
     refine OW.not (Wn.not rfl rfl rfl hq4) rfl ?_
     refine Oy rfl (Yl.pick_true rfl hq4 rfl) ?_
     refine Oy rfl (Yl.move rfl) ?_
     refine OW.not (Wn.not rfl rfl rfl rfl) rfl ?_
     refine OW.not (Wn.not rfl rfl rfl rfl) rfl ?_
     refine OW.not (Wn.not rfl rfl rfl rfl) rfl ?_
     refine OW.not (Wn.not rfl rfl rfl rfl) rfl ?_
     refine OW.not (Wn.not rfl rfl rfl rfl) rfl ?_
     refine Oy rfl (Yl.pick_true rfl rfl rfl) ?_
     refine Oy rfl (Yl.move rfl) ?_
     refine OW.not (Wn.not rfl rfl rfl rfl) rfl ?_
     refine OW.not (Wn.not rfl rfl rfl rfl) rfl ?_
     refine OW.not (Wn.not rfl rfl rfl rfl) rfl ?_
     refine OW.not (Wn.not rfl rfl rfl rfl) rfl ?_
     refine Oy rfl (Yl.pick_true rfl rfl rfl) ?_
     refine Oy rfl (Yl.move rfl) ?_
     refine OW.not (Wn.not rfl rfl rfl rfl) rfl ?_
     refine OW.not (Wn.not rfl rfl rfl rfl) rfl ?_
     refine OW.not (Wn.not rfl rfl rfl rfl) rfl ?_
     refine OW.not (Wn.not rfl rfl rfl rfl) rfl ?_
     refine Oy rfl (Yl.pick_true rfl rfl rfl) ?_
     refine OW.nil ?_
     refine W.cond_true rfl ?_
     refine Wr ?_
     refine Oy rfl (Yl.assign rfl) ?_
     refine OW.nil ?_
     refine W.ret ?_
     refine Fin.mk (Rsl.one rfl rfl) ⟨?_, rfl⟩ (by repeat constructor) (by repeat constructor)
     have hno : okB last y = false := by cases h : okB last y <;> simp_all [okB] <;> omega
     rw [ok_no hno] at hinv
     refine intv ?_
     simp [bandsM, hinv]
    ·have hq4d := of_decide_eq_false hq4
     refine OW.yl (Wn.run rfl rfl rfl hq4) rfl (Yl.fieldL 0 (fa_42_0) rfl rfl) ?_
     refine OW.yl (Wn.run rfl rfl rfl hq4) rfl (Yl.load1 Tryz.isAgg2 rfl (by repeat constructor) (by repeat constructor)) ?_
     refine OW.yl (Wn.run rfl rfl rfl hq4) rfl (Yl.gtr rfl rfl) ?_
     refine Oy rfl (Yl.pick_false rfl hq4 rfl) ?_
     refine Oy rfl (Yl.move rfl) ?_
     refine OW.split (t := 29) rfl (fun hq5 => ?_) (fun hq5 => ?_)
     ·have hq5d := of_decide_eq_true hq5
      refine OW.not (Wn.not rfl rfl rfl hq5) rfl ?_
      refine OW.not (Wn.not rfl rfl rfl hq5) rfl ?_
      refine OW.not (Wn.not rfl rfl rfl hq5) rfl ?_
      refine OW.not (Wn.not rfl rfl rfl hq5) rfl ?_
      refine OW.not (Wn.not rfl rfl rfl hq5) rfl ?_
      refine Oy rfl (Yl.pick_true rfl hq5 rfl) ?_
      refine Oy rfl (Yl.move rfl) ?_
      refine OW.not (Wn.not rfl rfl rfl rfl) rfl ?_
      refine OW.not (Wn.not rfl rfl rfl rfl) rfl ?_
      refine OW.not (Wn.not rfl rfl rfl rfl) rfl ?_
      refine OW.not (Wn.not rfl rfl rfl rfl) rfl ?_
      refine Oy rfl (Yl.pick_true rfl rfl rfl) ?_
      refine Oy rfl (Yl.move rfl) ?_
      refine OW.not (Wn.not rfl rfl rfl rfl) rfl ?_
      refine OW.not (Wn.not rfl rfl rfl rfl) rfl ?_
      refine OW.not (Wn.not rfl rfl rfl rfl) rfl ?_
      refine OW.not (Wn.not rfl rfl rfl rfl) rfl ?_
      refine Oy rfl (Yl.pick_true rfl rfl rfl) ?_
      refine OW.nil ?_
      refine W.cond_true rfl ?_
      refine Wr ?_
      refine Oy rfl (Yl.assign rfl) ?_
      refine OW.nil ?_
      refine W.ret ?_
      refine Fin.mk (Rsl.one rfl rfl) ⟨?_, rfl⟩ (by repeat constructor) (by repeat constructor)
      have hno : okB last y = false := by cases h : okB last y <;> simp_all [okB] <;> omega
      rw [ok_no hno] at hinv
      refine intv ?_
      simp [bandsM, hinv]
     ·have hq5d := of_decide_eq_false hq5
      refine OW.yl (Wn.run rfl rfl rfl hq5) rfl (Yl.fieldL 1 (fa_42_1) rfl rfl) ?_
      refine OW.yl (Wn.run rfl rfl rfl hq5) rfl (Yl.load1 Tryz.isAgg2 rfl (by repeat constructor) (by repeat constructor)) ?_
      refine OW.yl (Wn.run rfl rfl rfl hq5) rfl (Yl.fieldL 2 (fa_42_2) rfl rfl) ?_
      refine OW.yl (Wn.run rfl rfl rfl hq5) rfl (Yl.load1 Tryz.isAgg2 rfl (by repeat constructor) (by repeat constructor)) ?_
      refine OW.yl (Wn.run rfl rfl rfl hq5) rfl (Yl.gtr rfl rfl) ?_
      refine Oy rfl (Yl.pick_false rfl hq5 rfl) ?_
      refine Oy rfl (Yl.move rfl) ?_
      refine OW.split (t := 36) rfl (fun hq6 => ?_) (fun hq6 => ?_)
      ·have hq6d := of_decide_eq_true hq6
       refine OW.not (Wn.not rfl rfl rfl hq6) rfl ?_
       refine OW.not (Wn.not rfl rfl rfl hq6) rfl ?_
       refine OW.not (Wn.not rfl rfl rfl hq6) rfl ?_
       refine OW.not (Wn.not rfl rfl rfl hq6) rfl ?_
       refine Oy rfl (Yl.pick_true rfl hq6 rfl) ?_
       refine Oy rfl (Yl.move rfl) ?_
       refine OW.not (Wn.not rfl rfl rfl rfl) rfl ?_
       refine OW.not (Wn.not rfl rfl rfl rfl) rfl ?_
       refine OW.not (Wn.not rfl rfl rfl rfl) rfl ?_
       refine OW.not (Wn.not rfl rfl rfl rfl) rfl ?_
       refine Oy rfl (Yl.pick_true rfl rfl rfl) ?_
       refine OW.nil ?_
       refine W.cond_true rfl ?_
       refine Wr ?_
       refine Oy rfl (Yl.assign rfl) ?_
       refine OW.nil ?_
       refine W.ret ?_
       refine Fin.mk (Rsl.one rfl rfl) ⟨?_, rfl⟩ (by repeat constructor) (by repeat constructor)
       have hno : okB last y = false := by cases h : okB last y <;> simp_all [okB] <;> omega
       rw [ok_no hno] at hinv
       refine intv ?_
       simp [bandsM, hinv]
      ·have hq6d := of_decide_eq_false hq6
       refine OW.yl (Wn.run rfl rfl rfl hq6) rfl (Yl.fieldL 1 (fa_42_1) rfl rfl) ?_
       refine OW.yl (Wn.run rfl rfl rfl hq6) rfl (Yl.load1 Tryz.isAgg2 rfl (by repeat constructor) (by repeat constructor)) ?_
       refine OW.callv (Wn.run rfl rfl rfl hq6) rfl Tryz.call239 rfl (c_pback _) (by repeat constructor) ?_
       refine OW.yl (Wn.run rfl rfl rfl hq6) rfl (Yl.not rfl) ?_
       refine Oy rfl (Yl.pick_false rfl hq6 rfl) ?_
       refine Oy rfl (Yl.move rfl) ?_
       refine OW.split (t := 42) rfl (fun hq7 => ?_) (fun hq7 => ?_)
       ·have hq7n := not_t hq7
        refine OW.not (Wn.not rfl rfl rfl hq7) rfl ?_
        refine OW.not (Wn.not rfl rfl rfl hq7) rfl ?_
        refine OW.not (Wn.not rfl rfl rfl hq7) rfl ?_
        refine OW.not (Wn.not rfl rfl rfl hq7) rfl ?_
        refine Oy rfl (Yl.pick_true rfl hq7 rfl) ?_
        refine OW.nil ?_
        refine W.cond_true rfl ?_
        refine Wr ?_
        refine Oy rfl (Yl.assign rfl) ?_
        refine OW.nil ?_
        refine W.ret ?_
        refine Fin.mk (Rsl.one rfl rfl) ⟨?_, rfl⟩ (by repeat constructor) (by repeat constructor)
        have hno : okB last y = false := by cases h : okB last y <;> simp_all [okB] <;> omega
        rw [ok_no hno] at hinv
        refine intv ?_
        simp [bandsM, hinv]
       ·have hq7n := not_f hq7
        refine OW.yl (Wn.run rfl rfl rfl hq7) rfl (Yl.fieldL 2 (fa_42_2) rfl rfl) ?_
        refine OW.yl (Wn.run rfl rfl rfl hq7) rfl (Yl.load1 Tryz.isAgg2 rfl (by repeat constructor) (by repeat constructor)) ?_
        refine OW.callv (Wn.run rfl rfl rfl hq7) rfl Tryz.call239 rfl (c_pback _) (by repeat constructor) ?_
        refine OW.yl (Wn.run rfl rfl rfl hq7) rfl (Yl.not rfl) ?_
        refine Oy rfl (Yl.pick_false rfl hq7 rfl) ?_
        refine OW.nil ?_
        refine W.cond rfl (fun hq8 => ?_) (fun hq8 => ?_)
        ·have hq8n := not_t hq8
         refine Wr ?_
         refine Oy rfl (Yl.assign rfl) ?_
         refine OW.nil ?_
         refine W.ret ?_
         refine Fin.mk (Rsl.one rfl rfl) ⟨?_, rfl⟩ (by repeat constructor) (by repeat constructor)
         have hno : okB last y = false := by cases h : okB last y <;> simp_all [okB] <;> omega
         rw [ok_no hno] at hinv
         refine intv ?_
         simp [bandsM, hinv]
        ·have hq8n := not_f hq8
         refine W.skip ?_
         refine W.region ?_
         refine Oy rfl (Yl.fieldL 0 (fa_42_0) rfl rfl) ?_
         refine Oy rfl (Yl.load1 Tryz.isAgg2 rfl (by repeat constructor) (by repeat constructor)) ?_
         refine Oy rfl (Yl.assign rfl) ?_
         refine OW.nil ?_
         refine W.region ?_
         refine Oy rfl (Yl.add rfl rfl (by omega)) ?_
         refine Oy rfl (Yl.move rfl) ?_
         refine OW.nil ?_
         refine ⟨(i + 1, y.T), _, ⟨by omega, ?_⟩, (Le.cons rfl (Le.cons rfl (Le.cons rfl (Le.cons rfl (Le.nil _))))), rfl, by repeat constructor, by repeat constructor, by first | omega | (dsimp only; omega)⟩
         rw [hinv, chk_split]; have : okB last y = true := by simp_all [okB] <;> omega
         rw [this]; rfl
   ·have hq3d := of_decide_eq_false hq3
    rw [drop_end (by omega)] at hinv
    refine W.exit ?_
    refine Wr ?_
    refine Oy rfl (Yl.assign rfl) ?_
    refine OW.nil ?_
    refine W.ret ?_
    refine Fin.mk (Rsl.one rfl rfl) ⟨?_, rfl⟩ (by repeat constructor) (by repeat constructor)
    have hb : bandsM l = true := by unfold bandsM; rw [hinv]; simp only [chkB, Bool.and_true, decide_eq_true_eq]; omega
    simp [hb]

theorem tk_none {c : Com} {b : Bnd} (h : c.some = true) (h2 : togM metM [c.sp, ⟨b.Lo, b.Hi⟩] = none) : takesM c b = none := by simp [takesM, h, h2]
theorem tk_some {c : Com} {b : Bnd} {s : Spn} (h : c.some = true) (h2 : togM metM [c.sp, ⟨b.Lo, b.Hi⟩] = some s) : takesM c b = some ⟨s, true⟩ := by simp [takesM, h, h2]
theorem tk_first {c : Com} {b : Bnd} (h : c.some = false) : takesM c b = some ⟨⟨b.Lo, b.Hi⟩, true⟩ := by simp [takesM, h]
theorem tog_err {g : Spn → Spn → Spn} {l : List Spn} : (if l.all spanOk = true then if (togM g l).isSome = true then (0 : Int) else 9 else 140) ≠ 0 ↔ togM g l = none := by
 cases h : l.all spanOk
 ·simp [togM, h]
 ·cases h2 : togM g l <;> simp

theorem c_takes (p : Nat) (cm : Com) (b : Bnd) : FnC Tryz.prog 276 #[.pointer (some ⟨p, 0, none⟩), .agg (encB b).toArray] [.cell p (encC cm) 320] (fun v L' => v = .bool (takesM cm b).isSome ∧ L' = [.cell p (encC ((takesM cm b).getD cm)) 320]) := by
 refine FnC.go (m := 37) Tryz.func276 Tryz.ntmps276 rfl (Nat.le_of_ble_eq_true rfl) (fun Lf => ?_)
 refine Wr ?_
 refine OW.box (Wn.plain rfl) rfl rfl (by constructor) (fun b1 => ?_)
 refine Oy rfl (Yl.assign rfl) ?_
 refine OW.nil ?_
 refine Wr ?_
 refine Oy rfl (Yl.fieldL 1 (fa_42_1) rfl rfl) ?_
 refine Oy rfl (Yl.load1 Tryz.isAgg2 rfl (by repeat constructor) (by repeat constructor)) ?_
 refine Oy rfl (Yl.fieldL 2 (fa_42_2) rfl rfl) ?_
 refine Oy rfl (Yl.load1 Tryz.isAgg2 rfl (by repeat constructor) (by repeat constructor)) ?_
 refine Oy rfl (Yl.build (is := [0, 1]) (xs := [.tmp 9, .tmp 11]) st_194 rfl rfl (by repeat constructor)) ?_
 refine OW.alloc (Wn.plain rfl) rfl Tryz.zeroValue194 (by constructor) (fun b2 => ?_)
 refine OW.store (Wn.plain rfl) Tryz.sizeOf194 rfl rfl (by constructor) (by repeat constructor) rfl (by repeat constructor) (by repeat constructor) ?_
 refine OW.nil ?_
 refine W.seq ?_
 refine Wr ?_
 refine Oy rfl (Yl.move rfl) ?_
 refine Oy rfl (Yl.nilCheck rfl) ?_
 refine Oy rfl (Yl.fieldL 2 (fa_320_1) rfl rfl) ?_
 refine Oy rfl (Yl.load1 Tryz.isAgg4 rfl (by repeat constructor) (by repeat constructor)) ?_
 refine OW.nil ?_
 refine W.cond rfl (fun hq1 => ?_) (fun hq1 => ?_)
 ·refine W.seqS (X := (Nat)) (R0 := [.cell b2 (encP ⟨b.Lo, b.Hi⟩) 194]) (fun (b3 : (Nat)) => (True : Prop)) (fun (b3 : (Nat)) => ([(6, .pointer (some ⟨b3, 0, none⟩)), (7, .int .i64 (if [cm.sp, ⟨b.Lo, b.Hi⟩].all spanOk = true then if (togM metM [cm.sp, ⟨b.Lo, b.Hi⟩]).isSome = true then (0 : Int) else 9 else 140))] : Env)) (fun (b3 : (Nat)) => ([.cell b3 (encP ((togM metM [cm.sp, ⟨b.Lo, b.Hi⟩]).getD ⟨0, 0⟩)) 194, .cell b2 (encP ⟨b.Lo, b.Hi⟩) 194] : List Res)) [(0, _), (4, _), (5, _)] (Le.cons rfl (Le.cons rfl (Le.cons rfl (Le.nil _)))) (by repeat constructor) ?_ ?_
  ·refine W.draw mixed ?_
   refine Aq (i := 0) rfl (Wn.plain rfl) rfl (fun _ => Yl.move rfl) ?_
   refine Aq (i := 1) rfl (Wn.plain rfl) rfl (fun _ => Yl.nilCheck rfl) ?_
   refine Aq (i := 2) rfl (Wn.plain rfl) rfl (fun _ => Yl.fieldL 0 (fa_320_0) rfl rfl) ?_
   refine Al (i := 3) rfl (Wn.plain rfl) rfl (by repeat constructor) (Yl.load ⟨Tryz.isAgg194, Tryz.sizeOf194⟩ rfl .head (by repeat constructor)) ?_
   refine Al (i := 4) rfl (Wn.plain rfl) rfl (by repeat constructor) (Yl.load ⟨Tryz.isAgg194, Tryz.sizeOf194⟩ rfl .head (by repeat constructor)) ?_
   refine AW.two 5 10 (by kernel_rfl) ?_ ?_
   ·refine AWi.step (i := 5) rfl (Wn.plain rfl) rfl (Ex.lit (is := [0, 1]) (xs := [.tmp 21, .tmp 22]) rw_399 rfl rfl rfl (by decide) (by repeat constructor)) (.drop (by kernel_rfl) (.drop (by kernel_rfl) .nil)) ?_
    rintro _ _ ⟨b3, rfl, rfl⟩; refine ⟨by repeat constructor, ?_⟩
    refine AW.ent (Ent.seal_cell (sz := 2) encP ([cm.sp, ⟨b.Lo, b.Hi⟩]) rfl (fun _ => rfl) (by first | decide | simp)) ?_
    refine AW.two 6 10 (by kernel_rfl) ?_ ?_
    ·refine AWi.step (i := 6) rfl (Wn.plain rfl) rfl (Ex.call rfl rfl rfl (FnC.tri0 Tryz.call295 (c_Meet [cm.sp, ⟨b.Lo, b.Hi⟩] _ _ (by simp))) (by repeat constructor)) .nil ?_
     rintro _ _ ⟨_, ⟨rfl, rfl⟩, rfl⟩; refine ⟨by repeat constructor, ?_⟩
     refine Aq (i := 7) rfl (Wn.plain rfl) rfl (fun _ => Yl.move rfl) ?_
     refine Aq (i := 8) rfl (Wn.plain rfl) rfl (fun _ => Yl.extract rfl (by repeat constructor)) ?_
     refine Aq (i := 9) rfl (Wn.plain rfl) rfl (fun _ => Yl.extract rfl (by repeat constructor)) ?_
     refine AW.step (i := 10) rfl (by kernel_rfl) (Wn.plain rfl) rfl (Ex.alloc Tryz.zeroValue194 (by constructor)) .nil ?_
     rintro _ _ ⟨b4, rfl, rfl⟩; refine ⟨by repeat constructor, ?_⟩
     refine AW.step (i := 11) rfl (by kernel_rfl) (Wn.plain rfl) rfl (Ex.store Tryz.sizeOf194 rfl rfl (by constructor) (by repeat constructor) rfl (by repeat constructor) (by repeat constructor)) .nil ?_
     rintro _ _ rfl; refine ⟨by repeat constructor, ?_⟩
     refine Aq (i := 12) rfl (Wn.plain rfl) rfl (fun _ => Yl.assign rfl) ?_
     refine AW.done (by kernel_rfl) ?_
     refine ⟨_, _, ?_, (Le.cons rfl (Le.cons rfl (Le.cons rfl (Le.cons rfl (Le.cons rfl (Le.nil _)))))), rfl, by repeat constructor, by repeat constructor⟩
     trivial
    ·refine AWi.step (i := 10) rfl (Wn.plain rfl) rfl (Ex.alloc Tryz.zeroValue194 (by constructor)) .nil ?_
     rintro _ _ ⟨b5, rfl, rfl⟩; refine ⟨by repeat constructor, ?_⟩
     refine AW.step (i := 6) rfl (by kernel_rfl) (Wn.plain rfl) rfl (Ex.call rfl rfl rfl (FnC.tri0 Tryz.call295 (c_Meet [cm.sp, ⟨b.Lo, b.Hi⟩] _ _ (by simp))) (by repeat constructor)) .nil ?_
     rintro _ _ ⟨_, ⟨rfl, rfl⟩, rfl⟩; refine ⟨by repeat constructor, ?_⟩
     refine Aq (i := 7) rfl (Wn.plain rfl) rfl (fun _ => Yl.move rfl) ?_
     refine Aq (i := 8) rfl (Wn.plain rfl) rfl (fun _ => Yl.extract rfl (by repeat constructor)) ?_
     refine Aq (i := 9) rfl (Wn.plain rfl) rfl (fun _ => Yl.extract rfl (by repeat constructor)) ?_
     refine AW.step (i := 11) rfl (by kernel_rfl) (Wn.plain rfl) rfl (Ex.store Tryz.sizeOf194 rfl rfl (by constructor) (by repeat constructor) rfl (by repeat constructor) (by repeat constructor)) .nil ?_
     rintro _ _ rfl; refine ⟨by repeat constructor, ?_⟩
     refine Aq (i := 12) rfl (Wn.plain rfl) rfl (fun _ => Yl.assign rfl) ?_
     refine AW.done (by kernel_rfl) ?_
     refine ⟨_, _, ?_, (Le.cons rfl (Le.cons rfl (Le.cons rfl (Le.cons rfl (Le.cons rfl (Le.nil _)))))), rfl, by repeat constructor, by repeat constructor⟩
     trivial
   ·refine AWi.step (i := 10) rfl (Wn.plain rfl) rfl (Ex.alloc Tryz.zeroValue194 (by constructor)) (.keep (by kernel_rfl) (.keep (by kernel_rfl) .nil)) ?_
    rintro _ _ ⟨b6, rfl, rfl⟩; refine ⟨by repeat constructor, ?_⟩
    refine AW.step (i := 5) rfl (by kernel_rfl) (Wn.plain rfl) rfl (Ex.lit (is := [0, 1]) (xs := [.tmp 21, .tmp 22]) rw_399 rfl rfl rfl (by decide) (by repeat constructor)) (.drop (by kernel_rfl) (.drop (by kernel_rfl) .nil)) ?_
    rintro _ _ ⟨b7, rfl, rfl⟩; refine ⟨by repeat constructor, ?_⟩
    refine AW.ent (Ent.seal_cell (sz := 2) encP ([cm.sp, ⟨b.Lo, b.Hi⟩]) rfl (fun _ => rfl) (by first | decide | simp)) ?_
    refine AW.step (i := 6) rfl (by kernel_rfl) (Wn.plain rfl) rfl (Ex.call rfl rfl rfl (FnC.tri0 Tryz.call295 (c_Meet [cm.sp, ⟨b.Lo, b.Hi⟩] _ _ (by simp))) (by repeat constructor)) .nil ?_
    rintro _ _ ⟨_, ⟨rfl, rfl⟩, rfl⟩; refine ⟨by repeat constructor, ?_⟩
    refine Aq (i := 7) rfl (Wn.plain rfl) rfl (fun _ => Yl.move rfl) ?_
    refine Aq (i := 8) rfl (Wn.plain rfl) rfl (fun _ => Yl.extract rfl (by repeat constructor)) ?_
    refine Aq (i := 9) rfl (Wn.plain rfl) rfl (fun _ => Yl.extract rfl (by repeat constructor)) ?_
    refine AW.step (i := 11) rfl (by kernel_rfl) (Wn.plain rfl) rfl (Ex.store Tryz.sizeOf194 rfl rfl (by constructor) (by repeat constructor) rfl (by repeat constructor) (by repeat constructor)) .nil ?_
    rintro _ _ rfl; refine ⟨by repeat constructor, ?_⟩
    refine Aq (i := 12) rfl (Wn.plain rfl) rfl (fun _ => Yl.assign rfl) ?_
    refine AW.done (by kernel_rfl) ?_
    refine ⟨_, _, ?_, (Le.cons rfl (Le.cons rfl (Le.cons rfl (Le.cons rfl (Le.cons rfl (Le.nil _)))))), rfl, by repeat constructor, by repeat constructor⟩
    trivial
  ·rintro b3 hcut
   show W _ _ _ _ _ _ ([(6, .pointer (some ⟨b3, 0, none⟩)), (7, .int .i64 (if [cm.sp, ⟨b.Lo, b.Hi⟩].all spanOk = true then if (togM metM [cm.sp, ⟨b.Lo, b.Hi⟩]).isSome = true then (0 : Int) else 9 else 140))] ++ _) _ ([.cell b3 (encP ((togM metM [cm.sp, ⟨b.Lo, b.Hi⟩]).getD ⟨0, 0⟩)) 194, .cell b2 (encP ⟨b.Lo, b.Hi⟩) 194] ++ _)
   refine W.seq ?_
   refine Wr ?_
   refine Oy rfl (Yl.move rfl) ?_
   refine Oy rfl (Yl.neq rfl rfl) ?_
   refine OW.nil ?_
   refine W.cond rfl (fun hq2 => ?_) (fun hq2 => ?_)
   ·have hq2d := of_decide_eq_true hq2
    have hn := tog_err.1 hq2d
    have htk := tk_none (b := b) hq1 hn
    rw [htk]
    refine Wr ?_
    refine Oy rfl (Yl.assign rfl) ?_
    refine OW.nil ?_
    refine W.ret ?_
    refine Fin.mk (Rsl.one rfl rfl) ⟨?_, rfl⟩ (by repeat constructor) (by repeat constructor)
    rfl
   ·have hq2d := of_decide_eq_false hq2
    obtain ⟨sp, hn⟩ : ∃ sp, togM metM [cm.sp, ⟨b.Lo, b.Hi⟩] = some sp := by
     cases h : togM metM [cm.sp, ⟨b.Lo, b.Hi⟩] with
     | none => exact absurd (tog_err.2 h) hq2d
     | some sp => exact ⟨sp, rfl⟩
    rw [hn, tk_some hq1 hn]
    refine W.skip ?_
    refine W.region ?_
    refine Oy rfl (Yl.load ⟨Tryz.isAgg194, Tryz.sizeOf194⟩ rfl (by repeat constructor) (by repeat constructor)) ?_
    refine OW.store (Wn.plain rfl) Tryz.sizeOf194 rfl rfl (by constructor) (by repeat constructor) rfl (by repeat constructor) (by repeat constructor) ?_
    refine OW.nil ?_
    refine Wr ?_
    refine Oy rfl (Yl.move rfl) ?_
    refine Oy rfl (Yl.move rfl) ?_
    refine Oy rfl (Yl.load ⟨Tryz.isAgg194, Tryz.sizeOf194⟩ rfl (by repeat constructor) (by repeat constructor)) ?_
    refine Oy rfl (Yl.nilCheck rfl) ?_
    refine Oy rfl (Yl.fieldL 0 (fa_320_0) rfl rfl) ?_
    refine OW.store (Wn.plain rfl) Tryz.sizeOf194 rfl rfl (by constructor) (by repeat constructor) rfl (by repeat constructor) (by repeat constructor) ?_
    refine Oy rfl (Yl.nilCheck rfl) ?_
    refine Oy rfl (Yl.fieldL 2 (fa_320_1) rfl rfl) ?_
    refine OW.store (Wn.plain rfl) Tryz.sizeOf4 rfl rfl (by constructor) (by repeat constructor) rfl (by repeat constructor) (by repeat constructor) ?_
    refine OW.nil ?_
    refine Wr ?_
    refine Oy rfl (Yl.assign rfl) ?_
    refine OW.nil ?_
    refine W.ret ?_
    refine Fin.mk (Rsl.one rfl rfl) ⟨?_, rfl⟩ (by repeat constructor) (by repeat constructor)
    rfl
 ·rw [tk_first hq1]
  refine W.skip ?_
  refine Wr ?_
  refine Oy rfl (Yl.move rfl) ?_
  refine Oy rfl (Yl.move rfl) ?_
  refine Oy rfl (Yl.load ⟨Tryz.isAgg194, Tryz.sizeOf194⟩ rfl (by repeat constructor) (by repeat constructor)) ?_
  refine Oy rfl (Yl.nilCheck rfl) ?_
  refine Oy rfl (Yl.fieldL 0 (fa_320_0) rfl rfl) ?_
  refine OW.store (Wn.plain rfl) Tryz.sizeOf194 rfl rfl (by constructor) (by repeat constructor) rfl (by repeat constructor) (by repeat constructor) ?_
  refine Oy rfl (Yl.nilCheck rfl) ?_
  refine Oy rfl (Yl.fieldL 2 (fa_320_1) rfl rfl) ?_
  refine OW.store (Wn.plain rfl) Tryz.sizeOf4 rfl rfl (by constructor) (by repeat constructor) rfl (by repeat constructor) (by repeat constructor) ?_
  refine OW.nil ?_
  refine Wr ?_
  refine Oy rfl (Yl.assign rfl) ?_
  refine OW.nil ?_
  refine W.ret ?_
  refine Fin.mk (Rsl.one rfl rfl) ⟨?_, rfl⟩ (by repeat constructor) (by repeat constructor)
  rfl

theorem long_no {c : Com} {n : Nat} {b : Bnd} {bs : List Bnd} (h : (takesM c b).isSome = false) : longM c n (b :: bs) = (c, n) := by
 cases h2 : takesM c b <;> simp_all [longM]
theorem getD_no {c : Com} {b : Bnd} (h : (takesM c b).isSome = false) : (takesM c b).getD c = c := by
 cases h2 : takesM c b <;> simp_all
theorem long_yes {c : Com} {n : Nat} {b : Bnd} {bs : List Bnd} (h : (takesM c b).isSome = true) : longM c n (b :: bs) = longM ((takesM c b).getD c) (n + 1) bs := by
 cases h2 : takesM c b <;> simp_all [longM]

theorem c_longest (l : List Bnd) (a : Option Addr) (c : Nat) (hl : l.length ≤ 4096) : FnV Tryz.prog 235 #[.slice a l.length c] [rowI 3 encB l a c] (.tuple #[.agg (encC (longM com0 0 l).1).toArray, .int .i64 ((longM com0 0 l).2 : Int)]) := by
 refine FnC.go (m := 25) Tryz.func235 Tryz.ntmps235 rfl (Nat.le_of_ble_eq_true rfl) (fun Lf => ?_)
 refine Wr ?_
 refine OW.alloc (Wn.plain rfl) rfl Tryz.zeroValue320 (by constructor) (fun b1 => ?_)
 refine Oy rfl (Yl.assign rfl) ?_
 refine OW.nil ?_
 refine W.scope ?_
 refine Wr ?_
 refine OW.alloc (Wn.plain rfl) rfl Tryz.zeroValue320 (by constructor) (fun b2 => ?_)
 refine OW.nil ?_
 refine Wr ?_
 refine Oy rfl (Yl.makeFunc rfl rfl) ?_
 refine Oy rfl (Yl.assign rfl) ?_
 refine OW.nil ?_
 refine Wr ?_
 refine Oy rfl (Yl.assign rfl) ?_
 refine OW.nil ?_
 refine W.seq ?_
 refine W.label ?_
 refine W.seq ?_
 refine Wr ?_
 refine Oy rfl (Yl.move rfl) ?_
 refine Oy rfl (Yl.len ⟨Tryz.underlying38, Tryz.sizeOf42⟩ rfl) ?_
 refine Oy rfl (Yl.move rfl) ?_
 refine OW.nil ?_
 refine W.block ?_
 refine W.loopS (X := (Nat) × (Com)) (fun (x : (Nat) × (Com)) => match x with | (i, cm) => (i ≤ l.length ∧ (longM com0 0 l = longM cm i (l.drop i)) : Prop)) (fun (x : (Nat) × (Com)) => match x with | (i, cm) => ([(12, .int .i64 (i : Int)), (6, .int .i64 (i : Int))] : Env)) (fun (x : (Nat) × (Com)) => match x with | (i, cm) => ([.cell b2 (encC cm) 320] : List Res)) (fun (x : (Nat) × (Com)) => match x with | (i, cm) => (l.length - i : Nat)) (0, com0) [(2, _), (3, _), (4, _), (5, _), (10, _), (11, _)] (by simp) (Le.cons rfl (Le.cons rfl (Le.cons rfl (Le.cons rfl (Le.cons rfl (Le.cons rfl (Le.cons rfl (Le.cons rfl (Le.nil _))))))))) (by repeat constructor) ?_
 rintro ⟨i, cm⟩ ⟨hi, hinv⟩
 show W _ _ _ _ _ _ ([(12, .int .i64 (i : Int)), (6, .int .i64 (i : Int))] ++ _) _ ([.cell b2 (encC cm) 320] ++ _)
 refine Wr ?_
 refine Oy rfl (Yl.lss rfl rfl) ?_
 refine OW.nil ?_
 refine W.seq ?_
 refine W.cond rfl (fun hq1 => ?_) (fun hq1 => ?_)
 ·have hq1d := of_decide_eq_true hq1
  obtain ⟨y, hy, hdr⟩ := drop_at (l := l) (i := i) (by omega)
  rw [hdr] at hinv
  refine W.skip ?_
  refine W.seq ?_
  refine W.block ?_
  refine Wr ?_
  refine OW.fact (Sl.isSome (by repeat constructor) (by omega)) ?_
  rintro ⟨p1, hp1⟩; try dsimp only at hp1
  subst hp1
  refine Oy rfl (Yl.indexS i ⟨Tryz.underlying38, Tryz.sizeOf42⟩ rfl rfl rfl (by omega)) ?_
  refine Oy rfl (Yl.loadE ⟨Tryz.isAgg42, Tryz.sizeOf42⟩ rfl (by repeat constructor) (map_at hy)) ?_
  refine OW.alloc (Wn.plain rfl) rfl Tryz.zeroValue42 (by constructor) (fun b3 => ?_)
  refine OW.store (Wn.plain rfl) Tryz.sizeOf42 rfl rfl (by constructor) (by repeat constructor) rfl (by repeat constructor) (by repeat constructor) ?_
  refine OW.nil ?_
  refine W.seq ?_
  refine Wr ?_
  refine Oy rfl (Yl.move rfl) ?_
  refine Oy rfl (Yl.load ⟨Tryz.isAgg42, Tryz.sizeOf42⟩ rfl (by repeat constructor) (by repeat constructor)) ?_
  refine OW.call (Wn.plain rfl) rfl rfl rfl (FnC.triC Tryz.call276 (c_takes b2 cm y)) (by repeat constructor) ?_
  rintro _ _ ⟨rfl, rfl⟩
  refine Oy rfl (Yl.not rfl) ?_
  refine OW.nil ?_
  refine W.cond rfl (fun hq2 => ?_) (fun hq2 => ?_)
  ·have hq2n := not_t hq2
   rw [long_no hq2n] at hinv; rw [getD_no hq2n]
   refine W.exit ?_
   refine Wr ?_
   refine Oy rfl (Yl.load ⟨Tryz.isAgg320, Tryz.sizeOf320⟩ rfl (by repeat constructor) (by repeat constructor)) ?_
   refine Oy rfl (Yl.move rfl) ?_
   refine OW.store (Wn.plain rfl) Tryz.sizeOf320 rfl rfl (by constructor) (by repeat constructor) rfl (by repeat constructor) (by repeat constructor) ?_
   refine Oy rfl (Yl.assign rfl) ?_
   refine OW.nil ?_
   refine W.ret ?_
   refine Fin.mk (Rsl.of2 rfl (.cell ⟨Tryz.isAgg320, Tryz.sizeOf320⟩ rfl (by repeat constructor) (by repeat constructor)) (.tmp rfl)) ⟨?_, rfl⟩ (by repeat constructor) (by repeat constructor)
   rw [hinv]; first | rfl | (unfold longM; rfl)
  ·have hq2n := not_f hq2
   refine W.skip ?_
   refine W.region ?_
   refine Oy rfl (Yl.move rfl) ?_
   refine Oy rfl (Yl.add rfl rfl (by omega)) ?_
   refine Oy rfl (Yl.assign rfl) ?_
   refine OW.nil ?_
   refine W.region ?_
   refine Oy rfl (Yl.add rfl rfl (by omega)) ?_
   refine Oy rfl (Yl.move rfl) ?_
   refine OW.nil ?_
   refine ⟨(i + 1, (takesM cm y).getD cm), _, ⟨by omega, ?_⟩, (Le.cons rfl (Le.cons rfl (Le.cons rfl (Le.cons rfl (Le.cons rfl (Le.cons rfl (Le.cons rfl (Le.cons rfl (Le.nil _))))))))), rfl, by repeat constructor, by repeat constructor, by first | omega | (dsimp only; omega)⟩
   rw [hinv, long_yes (by simp_all)]
 ·have hq1d := of_decide_eq_false hq1
  rw [drop_end (by omega)] at hinv
  refine W.exit ?_
  refine Wr ?_
  refine Oy rfl (Yl.load ⟨Tryz.isAgg320, Tryz.sizeOf320⟩ rfl (by repeat constructor) (by repeat constructor)) ?_
  refine Oy rfl (Yl.move rfl) ?_
  refine OW.store (Wn.plain rfl) Tryz.sizeOf320 rfl rfl (by constructor) (by repeat constructor) rfl (by repeat constructor) (by repeat constructor) ?_
  refine Oy rfl (Yl.assign rfl) ?_
  refine OW.nil ?_
  refine W.ret ?_
  refine Fin.mk (Rsl.of2 rfl (.cell ⟨Tryz.isAgg320, Tryz.sizeOf320⟩ rfl (by repeat constructor) (by repeat constructor)) (.tmp rfl)) ⟨?_, rfl⟩ (by repeat constructor) (by repeat constructor)
  rw [hinv]; first | rfl | (unfold longM; rfl)

theorem long_bd : ∀ (l : List Bnd) (c : Com) (n : Nat), n ≤ (longM c n l).2 ∧ (longM c n l).2 ≤ n + l.length
  | [], c, n => by simp [longM]
  | b :: bs, c, n => by
    unfold longM
    cases takesM c b with
    | none => simp
    | some c' => have := long_bd bs c' (n + 1); simp; omega
theorem long_pos {l : List Bnd} (h : 0 < l.length) : 1 ≤ (longM com0 0 l).2 := by
 cases l with
 | nil => simp at h
 | cons b bs =>
  have : longM com0 0 (b :: bs) = longM ⟨⟨b.Lo, b.Hi⟩, true⟩ 1 bs := by simp [longM, takesM, com0]
  rw [this]
  exact (long_bd bs _ 1).1
theorem long_le (l : List Bnd) : (longM com0 0 l).2 ≤ l.length := by have := (long_bd l com0 0).2; omega
theorem cutF_enough : ∀ (k j : Nat) (l : List Bnd), l.length ≤ k → l.length ≤ j → cutF k l = cutF j l
  | 0, j, l, h, _ => by
    have : l = [] := List.eq_nil_of_length_eq_zero (by omega)
    subst this; cases j <;> rfl
  | k + 1, j, [], _, _ => by cases j <;> rfl
  | k + 1, 0, b :: bs, _, h => by simp at h
  | k + 1, j + 1, b :: bs, h, h' => by
    have hp := long_pos (l := b :: bs) (by simp)
    simp only [cutF]
    rw [cutF_enough k j _ (by simp at *; omega) (by simp at *; omega)]
theorem cutM_cons {l : List Bnd} (h : 0 < l.length) : cutM l = l.take (longM com0 0 l).2 :: cutM (l.drop (longM com0 0 l).2) := by
 have hp := long_pos h
 cases l with
 | nil => simp at h
 | cons b bs =>
  show cutF (bs.length + 1) (b :: bs) = _
  simp only [cutF]
  rw [show cutM ((b :: bs).drop (longM com0 0 (b :: bs)).2) = cutF bs.length _ from cutF_enough _ _ _ (Nat.le_refl _) (by simp; omega)]
theorem cutM_nil : cutM [] = [] := rfl
theorem drop_head {α : Type} {l : List α} {k : Nat} {x : α} {xs : List α} (h : l.drop k = x :: xs) : l[k]? = some x ∧ l.drop (k + 1) = xs ∧ k + 1 ≤ l.length := by
 refine ⟨by rw [← List.head?_drop, h]; rfl, ?_, ?_⟩
 ·rw [← List.drop_drop, h]; rfl
 ·have : (l.drop k).length = xs.length + 1 := by rw [h]; rfl
  simp at this; omega

theorem i_parts (l : List Bnd) (a : Option Addr) (c : Nat) (b : Nat) (hl : l.length ≤ 4096) : Iter Tryz.prog 234 [] [.pointer (some ⟨b, 0, none⟩)] [.cell b [.slice a l.length c] 38, rowI 3 encB l a c] [] (cutM l) (fun p vs Lx => (∃ a c, vs = [.slice a (List.length p) c]) ∧ Lx = []) := by
 intro yv S Sx I R Ix Rx s0 h0 hyld
 refine FnC.go (m := 23) Tryz.func234 Tryz.ntmps234 rfl (Nat.le_of_ble_eq_true rfl) (fun Lf => ?_)
 refine W.block ?_
 refine W.loopS (X := (List Bnd) × (Option Addr) × (Nat) × (Nat) × (S)) (fun (x : (List Bnd) × (Option Addr) × (Nat) × (Nat) × (S)) => match x with | (r, ra, rc, k, s) => ((cutM l).drop k = cutM r ∧ k ≤ (cutM l).length ∧ I k s ∧ r.length ≤ 4096 : Prop)) (fun (x : (List Bnd) × (Option Addr) × (Nat) × (Nat) × (S)) => match x with | (r, ra, rc, k, s) => ([] : Env)) (fun (x : (List Bnd) × (Option Addr) × (Nat) × (Nat) × (S)) => match x with | (r, ra, rc, k, s) => (([.cell b [.slice ra r.length rc] 38, rowI 3 encB r ra rc] ++ R s) : List Res)) (fun (x : (List Bnd) × (Option Addr) × (Nat) × (Nat) × (S)) => match x with | (r, ra, rc, k, s) => (r.length : Nat)) (l, a, c, 0, s0) [(0, _), (1, _)] (by exact ⟨rfl, Nat.zero_le _, h0, hl⟩) (Le.cons rfl (Le.cons rfl (Le.nil _))) (by repeat constructor) ?_
 rintro ⟨r, ra, rc, k, s⟩ hinv
 show W _ _ _ _ _ _ ([] ++ _) _ (([.cell b [.slice ra r.length rc] 38, rowI 3 encB r ra rc] ++ R s) ++ _)
 obtain ⟨i1, i2, i3, i4⟩ := hinv
 refine W.seq ?_
 refine Wr ?_
 refine Oy rfl (Yl.load1 Tryz.isAgg38 rfl (by repeat constructor) (by repeat constructor)) ?_
 refine Oy rfl (Yl.len ⟨Tryz.underlying38, Tryz.sizeOf42⟩ rfl) ?_
 refine Oy rfl (Yl.gtr rfl rfl) ?_
 refine OW.nil ?_
 refine W.cond rfl (fun hq1 => ?_) (fun hq1 => ?_)
 ·have hq1d := of_decide_eq_true hq1
  have hpos := long_pos (l := r) (by omega)
  have hle := long_le r
  rw [cutM_cons (l := r) (by omega)] at i1
  obtain ⟨i5, i6, i7⟩ := drop_head i1
  refine W.skip ?_
  refine W.block ?_
  refine Wr ?_
  refine Oy rfl (Yl.load1 Tryz.isAgg38 rfl (by repeat constructor) (by repeat constructor)) ?_
  refine OW.callv (Wn.plain rfl) rfl Tryz.call235 rfl (c_longest r _ _ i4) (by repeat constructor) ?_
  refine Oy rfl (Yl.move rfl) ?_
  refine Oy rfl (Yl.extract rfl (by repeat constructor)) ?_
  refine Oy rfl (Yl.extract rfl (by repeat constructor)) ?_
  refine OW.alloc (Wn.plain rfl) rfl Tryz.zeroValue320 (by constructor) (fun b1 => ?_)
  refine OW.store (Wn.plain rfl) Tryz.sizeOf320 rfl rfl (by constructor) (by repeat constructor) rfl (by repeat constructor) (by repeat constructor) ?_
  refine Oy rfl (Yl.assign rfl) ?_
  refine OW.nil ?_
  refine W.seq ?_
  refine Wr ?_
  refine Oy rfl (Yl.move rfl) ?_
  refine Oy rfl (Yl.load1 Tryz.isAgg38 rfl (by repeat constructor) (by repeat constructor)) ?_
  refine Oy rfl (Yl.move rfl) ?_
  refine Oy rfl (Yl.move rfl) ?_
  refine OW.cutM (l := 0) (h := (longM com0 0 r).2) (q := (longM com0 0 r).2) (r.take (longM com0 0 r).2) (Wn.plain rfl) rfl ⟨Tryz.underlying38, Tryz.sizeOf42⟩ rfl .none (.some rfl (rfl)) (.some rfl (rfl)) rfl (by repeat constructor) (by simp) (by omega) (by omega) (by omega) (by omega) (fun a1 c1 => ?_)
  refine OW.yield (Wn.plain rfl) rfl rfl rfl (by repeat constructor) (by repeat constructor) (hyld k _ s _ [] i5 ⟨⟨_, _, rfl⟩, rfl⟩ i3) ?_ ?_
  ·rintro s' hI'
   refine Oy rfl (Yl.not rfl) ?_
   refine OW.nil ?_
   refine W.cond_f1 rfl (bnot_t rfl) ?_
   refine W.skip ?_
   refine W.region ?_
   refine Oy rfl (Yl.load1 Tryz.isAgg38 rfl (by repeat constructor) (by repeat constructor)) ?_
   refine Oy rfl (Yl.move rfl) ?_
   refine OW.cutM (l := (longM com0 0 r).2) (h := r.length) (q := _) (r.drop (longM com0 0 r).2) (Wn.plain rfl) rfl ⟨Tryz.underlying38, Tryz.sizeOf42⟩ rfl (.some rfl (rfl)) .none .none rfl (by repeat constructor) (by rw [List.take_of_length_le (by simp)]) (by omega) (by omega) (by omega) (by omega) (fun a2 c2 => ?_)
   refine OW.store (Wn.plain rfl) Tryz.sizeOf38 rfl rfl (by constructor) (by repeat constructor) rfl (by repeat constructor) (by repeat constructor) ?_
   refine OW.nil ?_
   refine ⟨(r.drop (longM com0 0 r).2, _, _, k + 1, s'), _, ?_, (Le.cons rfl (Le.cons rfl (Le.nil _))), rfl, by repeat constructor, by repeat constructor, by simp; omega⟩
   refine ⟨i6, i7, hI', ?_⟩; simp; omega
  ·rintro s' hX
   refine Oy rfl (Yl.not rfl) ?_
   refine OW.nil ?_
   refine W.cond_t1 rfl (bnot_f rfl) ?_
   refine W.ret ?_
   first | exact Fin.it (Rsl.none rfl) (by repeat constructor) (.inr ⟨_, hX, rfl⟩) (by repeat constructor) | exact Fin.it (Rsl.none rfl) (by repeat constructor) (.inl ⟨_, i3, rfl⟩) (by repeat constructor)
 ·have hq1d := of_decide_eq_false hq1
  have hr0 : r = [] := List.eq_nil_of_length_eq_zero (by omega)
  subst hr0
  have hk : k = (cutM l).length := by have := congrArg List.length i1; simp [cutM_nil] at this; omega
  subst hk
  refine W.exit ?_
  first | exact Fin.it (Rsl.none rfl) (by repeat constructor) (.inr ⟨_, hX, rfl⟩) (by repeat constructor) | exact Fin.it (Rsl.none rfl) (by repeat constructor) (.inl ⟨_, i3, rfl⟩) (by repeat constructor)
theorem c_pparts (a : Option Addr) (m c : Nat) : FnC Tryz.prog 179 #[.slice a m c] [] (fun v L' => ∃ b, v = .func (.func 234) #[] #[.pointer (some ⟨b, 0, none⟩)] ∧ L' = [.cell b [.slice a m c] 38]) := by
 refine FnC.go (m := 4) Tryz.func179 Tryz.ntmps179 rfl (Nat.le_of_ble_eq_true rfl) (fun Lf => ?_)
 refine Wr ?_
 refine OW.box (Wn.plain rfl) rfl rfl (by constructor) (fun b1 => ?_)
 refine Oy rfl (Yl.assign rfl) ?_
 refine OW.nil ?_
 refine Wr ?_
 refine Oy rfl (Yl.makeFunc rfl rfl) ?_
 refine Oy rfl (Yl.assign rfl) ?_
 refine OW.nil ?_
 refine W.ret ?_
 exact Fin.mk (Rsl.one rfl rfl) ⟨_, rfl, rfl⟩ (by repeat constructor) (by repeat constructor)

theorem cutF_len : ∀ (k : Nat) (l : List Bnd), (cutF k l).length ≤ k
  | 0, l => by simp [cutF]
  | k + 1, [] => by simp [cutF]
  | k + 1, b :: bs => by simp only [cutF, List.length_cons]; have := cutF_len k ((b :: bs).drop (longM com0 0 (b :: bs)).2); omega
theorem cutM_len (l : List Bnd) : (cutM l).length ≤ l.length := cutF_len _ _
def lens {α : Type} (l : List (List α)) : List Nat := l.map List.length

theorem c_Cut1 (l : List Bnd) (a : Option Addr) (c b : Nat) (hl : l.length ≤ 4096) : FnC Tryz.prog 178 #[.pointer (some ⟨b, 0, none⟩)] [.cell b [.slice a l.length c] 38, rowI 3 encB l a c] (RetRowE 1 encN (lens (cutM l))) := by
 refine FnC.go (m := 14) Tryz.func178 Tryz.ntmps178 rfl (Nat.le_of_ble_eq_true rfl) (fun Lf => ?_)
 refine Wr ?_
 refine Oy rfl (Yl.assign rfl) ?_
 refine Oy rfl (Yl.assign rfl) ?_
 refine OW.nil ?_
 refine Wr ?_
 refine OW.alloc (Wn.plain rfl) rfl Tryz.zeroValue70 (by constructor) (fun b1 => ?_)
 refine OW.nil ?_
 refine W.seq ?_
 refine Wr ?_
 refine Oy rfl (Yl.load1 Tryz.isAgg38 rfl (by repeat constructor) (by repeat constructor)) ?_
 refine OW.call (Wn.plain rfl) rfl rfl rfl (FnC.tri0 Tryz.call179 (c_pparts _ _ _)) (by repeat constructor) ?_
 rintro _ _ ⟨bp, rfl, rfl⟩
 refine OW.nil ?_
 refine W.block ?_
 refine W.ent (Ent.new_arr 3 1) ?_
 refine W.rangeF (S := (List Nat) × (Option Addr) × (Nat)) (fun (k : Nat) (x : (List Nat) × (Option Addr) × (Nat)) => match x with | (ys, ra, rc) => (ys = lens ((cutM l).take k) : Prop)) (fun  (x : (List Nat) × (Option Addr) × (Nat)) => match x with | (ys, ra, rc) => ([.cell b1 [.slice ra ys.length rc] 70, rowR 3 1 encN ys ra rc] : List Res)) (fun (ex : Exit) (x : (List Nat) × (Option Addr) × (Nat)) => match x with | (ys, ra, rc) => (False : Prop)) (fun  (x : (List Nat) × (Option Addr) × (Nat)) => match x with | (ys, ra, rc) => ([.cell b1 [.slice ra ys.length rc] 70, rowR 3 1 encN ys ra rc] : List Res)) ([], none, 0) rfl Tryz.call234 (i_parts l a c _ hl) (by repeat constructor) (by rfl) rfl (by rintro _ _ _ ⟨⟨_, _, rfl⟩, _⟩; rfl) ?_ ?_ ?_
 ·rintro lp k p ⟨ys, ra, rc⟩ vs Lx hx ⟨⟨pa, pc, rfl⟩, rfl⟩ hI Lf
  show W _ _ _ _ _ _ _ [] ([] ++ [.cell b1 [.slice ra ys.length rc] 70, rowR 3 1 encN ys ra rc] ++ Lf)
  have hyl : ys.length ≤ 4096 := by rw [hI]; simp [lens]; have := cutM_len l; omega
  refine W.region ?_
  refine Oy rfl (Yl.assign rfl) ?_
  refine OW.nil ?_
  refine ⟨rfl, _, by repeat constructor, fun Lf => ?_⟩
  refine W.block ?_
  refine W.region ?_
  refine Oy rfl (Yl.load1 Tryz.isAgg70 rfl (by repeat constructor) (by repeat constructor)) ?_
  refine Oy rfl (Yl.move rfl) ?_
  refine Oy rfl (Yl.len ⟨Tryz.underlying38, Tryz.sizeOf42⟩ rfl) ?_
  refine OW.lit (is := [0]) (xs := [.tmp 10]) (Wn.plain rfl) rfl rw_70 rfl rfl rfl (by decide) (by repeat constructor) (fun b2 => ?_)
  refine OW.push  (Wn.plain rfl) rfl rw_70 rfl rfl (by repeat constructor) ⟨_, by repeat constructor⟩ (by rfl) (by rfl) (by repeat constructor) (by omega) (by omega) (fun a1 c1 => ?_)
  refine OW.store (Wn.plain rfl) Tryz.sizeOf70 rfl rfl (by constructor) (by repeat constructor) rfl (by repeat constructor) (by repeat constructor) ?_
  refine OW.nil ?_
  refine ⟨(ys ++ [p.length], _, _), ?_, EntL (by repeat constructor) (by repeat constructor)⟩
  rw [take_at hx, hI]; simp [lens]
 ·rintro D1 ⟨ys, ra, rc⟩ hI
  rw [List.take_length] at hI; subst hI
  refine Wr ?_
  refine Oy rfl (Yl.load1 Tryz.isAgg70 rfl (by repeat constructor) (by repeat constructor)) ?_
  refine Oy rfl (Yl.assign rfl) ?_
  refine Oy rfl (Yl.assign rfl) ?_
  refine OW.nil ?_
  refine W.ret ?_
  refine Fin.marks [D1] rfl (by repeat constructor) ?_
  refine Fin.ent (Ent.sealP (f := encN) (E := 3) (sz := 1) (by repeat constructor) (fun _ => rfl)) ?_
  exact Fin.mk (Rsl.two rfl rfl rfl) ⟨_, _, rfl, rfl⟩ (by repeat constructor) (by repeat constructor)
 ·rintro _ _ _ h; exact h.elim

theorem bandsM_len {l : List Bnd} (h : bandsM l = true) : 1 ≤ l.length ∧ l.length ≤ 256 := by
 simp only [bandsM, Bool.and_eq_true, decide_eq_true_eq] at h; exact h.1

theorem c_tellsCut (l : List Bnd) (a : Option Addr) (c b : Nat) (hl : bandsM l = true) : FnC Tryz.prog 177 #[.slice a l.length c, .func (.func 178) #[] #[.pointer (some ⟨b, 0, none⟩)]] [.cell b [.slice a l.length c] 38, rowI 3 encB l a c] (RetRowE 1 encN (lens (cutM l))) := by
 refine FnC.go (m := 18) Tryz.func177 Tryz.ntmps177 rfl (Nat.le_of_ble_eq_true rfl) (fun Lf => ?_)
 have hlen := bandsM_len hl
 refine Wr ?_
 refine Oy rfl (Yl.assign rfl) ?_
 refine Oy rfl (Yl.assign rfl) ?_
 refine OW.nil ?_
 refine W.seq ?_
 refine Wr ?_
 refine Oy rfl (Yl.move rfl) ?_
 refine OW.callv (Wn.plain rfl) rfl Tryz.call183 rfl ((c_pCheck l _ _).cast (v' := .int .i64 0) (by simp [hl])) (by repeat constructor) ?_
 refine Oy rfl (Yl.assign rfl) ?_
 refine OW.nil ?_
 refine Wr ?_
 refine Oy rfl (Yl.move rfl) ?_
 refine Oy rfl (Yl.neq rfl rfl) ?_
 refine OW.nil ?_
 refine W.cond_f1 rfl (by decide) ?_
 refine W.skip ?_
 refine Wr ?_
 refine Oy rfl (Yl.move rfl) ?_
 refine OW.call (Wn.plain rfl) rfl rfl rfl (FnC.triC Tryz.call178 (c_Cut1 l a c b (by omega))) (by repeat constructor) ?_
 rintro _ _ ⟨ra, rc, rfl, rfl⟩
 refine Oy rfl (Yl.extract rfl (by repeat constructor)) ?_
 refine Oy rfl (Yl.extract rfl (by repeat constructor)) ?_
 refine Oy rfl (Yl.assign rfl) ?_
 refine Oy rfl (Yl.assign rfl) ?_
 refine OW.nil ?_
 refine W.ret ?_
 exact Fin.mk (Rsl.two rfl rfl rfl) ⟨_, _, rfl, rfl⟩ (by repeat constructor) (by repeat constructor)
theorem c_pCut (l : List Bnd) (a : Option Addr) (c : Nat) (hl : bandsM l = true) : FnC Tryz.prog 115 #[.slice a l.length c] [rowI 3 encB l a c] (RetRowE 1 encN (lens (cutM l))) := by
 refine FnC.go (m := 9) Tryz.func115 Tryz.ntmps115 rfl (Nat.le_of_ble_eq_true rfl) (fun Lf => ?_)
 refine Wr ?_
 refine OW.box (Wn.plain rfl) rfl rfl (by constructor) (fun b1 => ?_)
 refine Oy rfl (Yl.assign rfl) ?_
 refine Oy rfl (Yl.assign rfl) ?_
 refine OW.nil ?_
 refine Wr ?_
 refine Oy rfl (Yl.load1 Tryz.isAgg38 rfl (by repeat constructor) (by repeat constructor)) ?_
 refine Oy rfl (Yl.makeFunc rfl rfl) ?_
 refine OW.call (Wn.plain rfl) rfl rfl rfl (FnC.tri0 Tryz.call177 (c_tellsCut l a c _ hl)) (by repeat constructor) ?_
 rintro _ _ ⟨ra, rc, rfl, rfl⟩
 refine Oy rfl (Yl.extract rfl (by repeat constructor)) ?_
 refine Oy rfl (Yl.extract rfl (by repeat constructor)) ?_
 refine Oy rfl (Yl.assign rfl) ?_
 refine Oy rfl (Yl.assign rfl) ?_
 refine OW.nil ?_
 refine W.ret ?_
 exact Fin.mk (Rsl.two rfl rfl rfl) ⟨_, _, rfl, rfl⟩ (by repeat constructor) (by repeat constructor)

/-- what is common to all bands -/
def commM (l : List Bnd) : Option Spn := if (longM com0 0 l).2 = l.length then some (longM com0 0 l).1.sp else none
def commV (l : List Bnd) : Value := .tuple [.agg (encP ((commM l).getD ⟨0, 0⟩)).toArray, .int .i64 (if (commM l).isSome then 0 else 181)].toArray
theorem comm_y {l : List Bnd} (h : ((longM com0 0 l).2 : Int) = (l.length : Int)) : commM l = some (longM com0 0 l).1.sp := by unfold commM; rw [if_pos (by omega)]
theorem comm_n {l : List Bnd} (h : ¬ ((longM com0 0 l).2 : Int) = (l.length : Int)) : commM l = none := by unfold commM; rw [if_neg (by omega)]

theorem c_Common1 (l : List Bnd) (a : Option Addr) (c b : Nat) (hl : l.length ≤ 4096) : FnC Tryz.prog 278 #[.pointer (some ⟨b, 0, none⟩)] [.cell b [.slice a l.length c] 38, rowI 3 encB l a c] (fun v L' => v = commV l ∧ L' = []) := by
 refine FnC.go (m := 22) Tryz.func278 Tryz.ntmps278 rfl (Nat.le_of_ble_eq_true rfl) (fun Lf => ?_)
 refine Wr ?_
 refine OW.alloc (Wn.plain rfl) rfl Tryz.zeroValue194 (by constructor) (fun b1 => ?_)
 refine Oy rfl (Yl.assign rfl) ?_
 refine OW.nil ?_
 refine W.seq ?_
 refine Wr ?_
 refine Oy rfl (Yl.load1 Tryz.isAgg38 rfl (by repeat constructor) (by repeat constructor)) ?_
 refine OW.callv (Wn.plain rfl) rfl Tryz.call235 rfl (c_longest _ _ _ (by omega)) (by repeat constructor) ?_
 refine Oy rfl (Yl.move rfl) ?_
 refine Oy rfl (Yl.extract rfl (by repeat constructor)) ?_
 refine Oy rfl (Yl.extract rfl (by repeat constructor)) ?_
 refine OW.alloc (Wn.plain rfl) rfl Tryz.zeroValue320 (by constructor) (fun b2 => ?_)
 refine OW.store (Wn.plain rfl) Tryz.sizeOf320 rfl rfl (by constructor) (by repeat constructor) rfl (by repeat constructor) (by repeat constructor) ?_
 refine Oy rfl (Yl.assign rfl) ?_
 refine OW.nil ?_
 refine Wr ?_
 refine Oy rfl (Yl.move rfl) ?_
 refine Oy rfl (Yl.load1 Tryz.isAgg38 rfl (by repeat constructor) (by repeat constructor)) ?_
 refine Oy rfl (Yl.len ⟨Tryz.underlying38, Tryz.sizeOf42⟩ rfl) ?_
 refine Oy rfl (Yl.eql rfl rfl) ?_
 refine OW.nil ?_
 refine W.cond rfl (fun hq1 => ?_) (fun hq1 => ?_)
 ·have hq1d := of_decide_eq_true hq1
  unfold commV; rw [comm_y hq1d]
  refine Wr ?_
  refine Oy rfl (Yl.fieldL 0 (fa_320_0) rfl rfl) ?_
  refine Oy rfl (Yl.fieldL 0 (fa_194_0) rfl rfl) ?_
  refine Oy rfl (Yl.load1 Tryz.isAgg2 rfl (by repeat constructor) (by repeat constructor)) ?_
  refine Oy rfl (Yl.fieldL 0 (fa_320_0) rfl rfl) ?_
  refine Oy rfl (Yl.fieldL 1 (fa_194_1) rfl rfl) ?_
  refine Oy rfl (Yl.load1 Tryz.isAgg2 rfl (by repeat constructor) (by repeat constructor)) ?_
  refine Oy rfl (Yl.build (is := [0, 1]) (xs := [.tmp 16, .tmp 19]) st_194 rfl rfl (by repeat constructor)) ?_
  refine OW.store (Wn.plain rfl) Tryz.sizeOf194 rfl rfl (by constructor) (by repeat constructor) rfl (by repeat constructor) (by repeat constructor) ?_
  refine Oy rfl (Yl.assign rfl) ?_
  refine OW.nil ?_
  refine W.ret ?_
  refine Fin.mk (Rsl.of2 rfl (.cell ⟨Tryz.isAgg194, Tryz.sizeOf194⟩ rfl (by repeat constructor) (by repeat constructor)) (.tmp rfl)) ⟨?_, rfl⟩ (by repeat constructor) (by repeat constructor)
  rfl
 ·have hq1d := of_decide_eq_false hq1
  unfold commV; rw [comm_n hq1d]
  refine W.skip ?_
  refine Wr ?_
  refine Oy rfl (Yl.build (is := []) (xs := []) st_194 rfl rfl (by repeat constructor)) ?_
  refine OW.store (Wn.plain rfl) Tryz.sizeOf194 rfl rfl (by constructor) (by repeat constructor) rfl (by repeat constructor) (by repeat constructor) ?_
  refine Oy rfl (Yl.assign rfl) ?_
  refine OW.nil ?_
  refine W.ret ?_
  refine Fin.mk (Rsl.of2 rfl (.cell ⟨Tryz.isAgg194, Tryz.sizeOf194⟩ rfl (by repeat constructor) (by repeat constructor)) (.tmp rfl)) ⟨?_, rfl⟩ (by repeat constructor) (by repeat constructor)
  rfl
theorem c_tellsCommon (l : List Bnd) (a : Option Addr) (c b : Nat) (hl : bandsM l = true) : FnV Tryz.prog 277 #[.slice a l.length c, .func (.func 278) #[] #[.pointer (some ⟨b, 0, none⟩)]] [.cell b [.slice a l.length c] 38, rowI 3 encB l a c] (commV l) := by
 refine FnC.go (m := 18) Tryz.func277 Tryz.ntmps277 rfl (Nat.le_of_ble_eq_true rfl) (fun Lf => ?_)
 have hlen := bandsM_len hl
 refine Wr ?_
 refine OW.alloc (Wn.plain rfl) rfl Tryz.zeroValue194 (by constructor) (fun b1 => ?_)
 refine Oy rfl (Yl.assign rfl) ?_
 refine OW.nil ?_
 refine W.seq ?_
 refine Wr ?_
 refine Oy rfl (Yl.move rfl) ?_
 refine OW.callv (Wn.plain rfl) rfl Tryz.call183 rfl ((c_pCheck l _ _).cast (v' := .int .i64 0) (by simp [hl])) (by repeat constructor) ?_
 refine Oy rfl (Yl.assign rfl) ?_
 refine OW.nil ?_
 refine Wr ?_
 refine Oy rfl (Yl.move rfl) ?_
 refine Oy rfl (Yl.neq rfl rfl) ?_
 refine OW.nil ?_
 refine W.cond_f1 rfl (by decide) ?_
 refine W.skip ?_
 refine Wr ?_
 refine Oy rfl (Yl.move rfl) ?_
 refine OW.call (Wn.plain rfl) rfl rfl rfl (FnC.triC Tryz.call278 (c_Common1 l a c b (by omega))) (by repeat constructor) ?_
 rintro _ _ ⟨rfl, rfl⟩
 refine Oy rfl (Yl.extract rfl (by repeat constructor)) ?_
 refine Oy rfl (Yl.extract rfl (by repeat constructor)) ?_
 refine OW.store (Wn.plain rfl) Tryz.sizeOf194 rfl rfl (by constructor) (by repeat constructor) rfl (by repeat constructor) (by repeat constructor) ?_
 refine Oy rfl (Yl.assign rfl) ?_
 refine OW.nil ?_
 refine W.ret ?_
 refine Fin.mk (Rsl.of2 rfl (.cell ⟨Tryz.isAgg194, Tryz.sizeOf194⟩ rfl (by repeat constructor) (by repeat constructor)) (.tmp rfl)) ⟨?_, rfl⟩ (by repeat constructor) (by repeat constructor)
 rfl
theorem c_Common (l : List Bnd) (a : Option Addr) (c : Nat) (hl : bandsM l = true) : FnV Tryz.prog 236 #[.slice a l.length c] [rowI 3 encB l a c] (commV l) := by
 refine FnC.go (m := 9) Tryz.func236 Tryz.ntmps236 rfl (Nat.le_of_ble_eq_true rfl) (fun Lf => ?_)
 refine Wr ?_
 refine OW.box (Wn.plain rfl) rfl rfl (by constructor) (fun b1 => ?_)
 refine OW.alloc (Wn.plain rfl) rfl Tryz.zeroValue194 (by constructor) (fun b2 => ?_)
 refine Oy rfl (Yl.assign rfl) ?_
 refine OW.nil ?_
 refine Wr ?_
 refine Oy rfl (Yl.load1 Tryz.isAgg38 rfl (by repeat constructor) (by repeat constructor)) ?_
 refine Oy rfl (Yl.makeFunc rfl rfl) ?_
 refine OW.callv (Wn.plain rfl) rfl Tryz.call277 rfl (c_tellsCommon l a c _ hl) (by repeat constructor) ?_
 refine Oy rfl (Yl.extract rfl (by repeat constructor)) ?_
 refine Oy rfl (Yl.extract rfl (by repeat constructor)) ?_
 refine OW.store (Wn.plain rfl) Tryz.sizeOf194 rfl rfl (by constructor) (by repeat constructor) rfl (by repeat constructor) (by repeat constructor) ?_
 refine Oy rfl (Yl.assign rfl) ?_
 refine OW.nil ?_
 refine W.ret ?_
 refine Fin.mk (Rsl.of2 rfl (.cell ⟨Tryz.isAgg194, Tryz.sizeOf194⟩ rfl (by repeat constructor) (by repeat constructor)) (.tmp rfl)) ⟨?_, rfl⟩ (by repeat constructor) (by repeat constructor)
 rfl

theorem okB_t {last : Int} {b : Bnd} (h : okB last b = true) : last < b.T ∧ b.T ≤ 281474976710656 ∧ b.Lo ≤ b.Hi ∧ (-2305844108725321728 ≤ b.Lo ∧ b.Lo ≤ 2305844108725321728) ∧ (-2305844108725321728 ≤ b.Hi ∧ b.Hi ≤ 2305844108725321728) := by
 simp only [okB, Bool.and_eq_true, decide_eq_true_eq] at h
 exact ⟨h.1.1.1.1, h.1.1.1.2, h.1.1.2, backM_t h.1.2, backM_t h.2⟩
theorem chkB_mem : ∀ {l : List Bnd} {last : Int}, chkB last l = true → ∀ b ∈ l, last < b.T ∧ b.T ≤ 281474976710656 ∧ b.Lo ≤ b.Hi ∧ (-2305844108725321728 ≤ b.Lo ∧ b.Lo ≤ 2305844108725321728) ∧ (-2305844108725321728 ≤ b.Hi ∧ b.Hi ≤ 2305844108725321728)
  | [], _, _, b, hb => by cases hb
  | x :: xs, last, h, b, hb => by
    simp only [chkB, Bool.and_eq_true] at h
    have hx := okB_t h.1
    rcases List.mem_cons.1 hb with rfl | hb
    · exact hx
    · have := chkB_mem h.2 b hb; omega
theorem bandsM_mem {l : List Bnd} (h : bandsM l = true) : ∀ b ∈ l, 0 ≤ b.T ∧ b.T ≤ 281474976710656 ∧ b.Lo ≤ b.Hi ∧ (-2305844108725321728 ≤ b.Lo ∧ b.Lo ≤ 2305844108725321728) ∧ (-2305844108725321728 ≤ b.Hi ∧ b.Hi ≤ 2305844108725321728) := fun b hb => by
  simp only [bandsM, Bool.and_eq_true] at h
  have := chkB_mem h.2 b hb; omega
/-- the span within which constants are told -/
def InB (s : Spn) : Prop := s.Lo ≤ s.Hi ∧ (-2305844108725321728 ≤ s.Lo ∧ s.Lo ≤ 2305844108725321728) ∧ (-2305844108725321728 ≤ s.Hi ∧ s.Hi ≤ 2305844108725321728)
theorem takes_in {c c' : Com} {b : Bnd} (hc : c.some = true → InB c.sp) (hb : b.Lo ≤ b.Hi ∧ (-2305844108725321728 ≤ b.Lo ∧ b.Lo ≤ 2305844108725321728) ∧ (-2305844108725321728 ≤ b.Hi ∧ b.Hi ≤ 2305844108725321728)) (h : takesM c b = some c') : c'.some = true ∧ InB c'.sp := by
 unfold takesM at h
 split at h
 ·rename_i hs
  have hcs := hc hs
  unfold togM at h
  split at h
  ·cases h
  ·rename_i s hs2
   split at hs2
   ·rename_i hk
    simp only [Option.some.injEq] at hs2 h
    subst hs2 h
    simp only [Bool.and_eq_true] at hk
    have := spanOk_t hk.2
    simp only [foldM, List.foldl, metM] at this ⊢
    unfold InB at hcs ⊢
    refine ⟨by first | rfl | trivial, ?_⟩
    dsimp only at this ⊢
    omega
   ·cases hs2
 ·simp only [Option.some.injEq] at h
  subst h
  exact ⟨rfl, hb⟩
theorem long_in : ∀ (l : List Bnd) (c : Com) (n : Nat), (c.some = true → InB c.sp) → (∀ b ∈ l, b.Lo ≤ b.Hi ∧ (-2305844108725321728 ≤ b.Lo ∧ b.Lo ≤ 2305844108725321728) ∧ (-2305844108725321728 ≤ b.Hi ∧ b.Hi ≤ 2305844108725321728)) → (longM c n l).1.some = true → InB (longM c n l).1.sp
  | [], c, n, hc, _, h => hc h
  | b :: bs, c, n, hc, hb, h => by
    unfold longM at h ⊢
    cases ht : takesM c b with
    | none => rw [ht] at h; exact hc h
    | some c' =>
      rw [ht] at h
      have := takes_in hc (hb b List.mem_cons_self) ht
      exact long_in bs c' (n + 1) (fun _ => this.2) (fun x hx => hb x (List.mem_cons_of_mem _ hx)) h
theorem long_some : ∀ (l : List Bnd) (c : Com) (n : Nat), (0 < l.length ∧ (longM c n l).2 = n + l.length ∨ c.some = true) → (longM c n l).1.some = true
  | [], c, n, h => by simpa [longM] using h
  | b :: bs, c, n, h => by
    unfold longM at h ⊢
    cases ht : takesM c b with
    | none => rw [ht] at h; simp at h; exact h
    | some c' =>
      refine long_some bs c' (n + 1) (.inr ?_)
      unfold takesM at ht
      split at ht
      · split at ht
        · cases ht
        · simp only [Option.some.injEq] at ht; subst ht; rfl
      · simp only [Option.some.injEq] at ht; subst ht; rfl
theorem comm_in {l : List Bnd} (h : bandsM l = true) {s : Spn} (hs : commM l = some s) : InB s := by
 have hl := bandsM_len h
 unfold commM at hs
 split at hs
 ·rename_i h1
  simp only [Option.some.injEq] at hs
  subst hs
  refine long_in l com0 0 (by simp [com0]) (fun b hb => (bandsM_mem h b hb).2.2) (long_some l com0 0 (.inl ⟨by omega, by omega⟩))
 ·cases hs
def fitM (l : List Bnd) : Option Int := (commM l).map midM
def fitV (l : List Bnd) : Value := .tuple [.int .i64 ((fitM l).getD 0), .int .i64 (if (fitM l).isSome then 0 else 181)].toArray

theorem c_pFit (l : List Bnd) (a : Option Addr) (c : Nat) (hl : bandsM l = true) : FnV Tryz.prog 180 #[.slice a l.length c] [rowI 3 encB l a c] (fitV l) := by
 refine FnC.go (m := 18) Tryz.func180 Tryz.ntmps180 rfl (Nat.le_of_ble_eq_true rfl) (fun Lf => ?_)
 refine Wr ?_
 refine Oy rfl (Yl.assign rfl) ?_
 refine Oy rfl (Yl.assign rfl) ?_
 refine OW.nil ?_
 refine Wr ?_
 refine Oy rfl (Yl.move rfl) ?_
 refine OW.callv (Wn.plain rfl) rfl Tryz.call236 rfl (c_Common l a c hl) (by repeat constructor) ?_
 refine Oy rfl (Yl.move rfl) ?_
 refine Oy rfl (Yl.extract rfl (by repeat constructor)) ?_
 refine Oy rfl (Yl.extract rfl (by repeat constructor)) ?_
 refine OW.alloc (Wn.plain rfl) rfl Tryz.zeroValue194 (by constructor) (fun b1 => ?_)
 refine OW.store (Wn.plain rfl) Tryz.sizeOf194 rfl rfl (by constructor) (by repeat constructor) rfl (by repeat constructor) (by repeat constructor) ?_
 refine Oy rfl (Yl.assign rfl) ?_
 refine OW.nil ?_
 refine W.seq ?_
 refine Wr ?_
 refine Oy rfl (Yl.move rfl) ?_
 refine Oy rfl (Yl.neq rfl rfl) ?_
 refine OW.nil ?_
 refine W.cond rfl (fun hq1 => ?_) (fun hq1 => ?_)
 ·have hq1d := of_decide_eq_true hq1
  have hn : commM l = none := by cases h : commM l <;> simp_all
  unfold fitV fitM; rw [hn]
  refine Wr ?_
  refine Oy rfl (Yl.move rfl) ?_
  refine Oy rfl (Yl.assign rfl) ?_
  refine Oy rfl (Yl.assign rfl) ?_
  refine OW.nil ?_
  refine W.ret ?_
  refine Fin.mk (Rsl.two rfl rfl rfl) ⟨?_, rfl⟩ (by repeat constructor) (by repeat constructor)
  rfl
 ·have hq1d := of_decide_eq_false hq1
  obtain ⟨sp, hn⟩ : ∃ sp, commM l = some sp := by cases h : commM l <;> simp_all
  obtain ⟨h1, h2, h3⟩ := comm_in hl hn
  unfold fitV fitM; rw [hn]
  refine W.skip ?_
  refine Wr ?_
  refine Oy rfl (Yl.load ⟨Tryz.isAgg194, Tryz.sizeOf194⟩ rfl (by repeat constructor) (by repeat constructor)) ?_
  refine OW.callv (Wn.plain rfl) rfl Tryz.call237 rfl (c_Middle sp ⟨⟨by omega, by omega⟩, by omega, by omega⟩ (decide_eq_true h1)) (by repeat constructor) ?_
  refine Oy rfl (Yl.extract rfl (by repeat constructor)) ?_
  refine Oy rfl (Yl.extract rfl (by repeat constructor)) ?_
  refine Oy rfl (Yl.assign rfl) ?_
  refine Oy rfl (Yl.assign rfl) ?_
  refine OW.nil ?_
  refine W.ret ?_
  refine Fin.mk (Rsl.two rfl rfl rfl) ⟨?_, rfl⟩ (by repeat constructor) (by repeat constructor)
  rfl
theorem c_flat (l : List Bnd) (a : Option Addr) (c : Nat) (hl : bandsM l = true) : FnV Tryz.prog 116 #[.slice a l.length c] [rowI 3 encB l a c] (.tuple #[.agg (encL ⟨(fitM l).getD 0, 0, 0, 1⟩).toArray, .int .i64 (if (fitM l).isSome then 0 else 181)]) := by
 refine FnC.go (m := 14) Tryz.func116 Tryz.ntmps116 rfl (Nat.le_of_ble_eq_true rfl) (fun Lf => ?_)
 refine Wr ?_
 refine OW.alloc (Wn.plain rfl) rfl Tryz.zeroValue37 (by constructor) (fun b1 => ?_)
 refine Oy rfl (Yl.assign rfl) ?_
 refine OW.nil ?_
 refine Wr ?_
 refine Oy rfl (Yl.move rfl) ?_
 refine OW.callv (Wn.plain rfl) rfl Tryz.call180 rfl (c_pFit l a c hl) (by repeat constructor) ?_
 refine Oy rfl (Yl.move rfl) ?_
 refine Oy rfl (Yl.extract rfl (by repeat constructor)) ?_
 refine Oy rfl (Yl.extract rfl (by repeat constructor)) ?_
 refine Oy rfl (Yl.assign rfl) ?_
 refine Oy rfl (Yl.assign rfl) ?_
 refine OW.nil ?_
 refine Wr ?_
 refine Oy rfl (Yl.move rfl) ?_
 refine Oy rfl (Yl.build (is := [0, 3]) (xs := [.tmp 11, .const (.int .i64 1)]) st_37 rfl rfl (by repeat constructor)) ?_
 refine Oy rfl (Yl.move rfl) ?_
 refine OW.store (Wn.plain rfl) Tryz.sizeOf37 rfl rfl (by constructor) (by repeat constructor) rfl (by repeat constructor) (by repeat constructor) ?_
 refine Oy rfl (Yl.assign rfl) ?_
 refine OW.nil ?_
 refine W.ret ?_
 refine Fin.mk (Rsl.of2 rfl (.cell ⟨Tryz.isAgg37, Tryz.sizeOf37⟩ rfl (by repeat constructor) (by repeat constructor)) (.tmp rfl)) ⟨?_, rfl⟩ (by repeat constructor) (by repeat constructor)
 rfl
end Go.Yb
