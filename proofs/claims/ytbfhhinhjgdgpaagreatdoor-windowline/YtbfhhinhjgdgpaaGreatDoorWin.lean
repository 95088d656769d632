/-
  A part of the proof of windowLine_holds: see the text that holds it. No conditions of its own.
-/
import Derived.Test.YtbfhhinhjgdgpaaGreatDoorSeg2
namespace Go.Yb
open Go Go.Proofs Go.RowKit

/-! window: points become segments -/
def ptB (p : Pt) : Bool := decide (0 ≤ p.T ∧ p.T ≤ 281474976710656 ∧ -2305843009213693952 ≤ p.V ∧ p.V ≤ 2305843009213693952)
def chkP : Int → List Pt → Bool
  | _, [] => true
  | last, p :: ps => ptB p && (decide (last < p.T) && chkP p.T ps)
def pointsM (l : List Pt) : Bool := decide (1 ≤ l.length ∧ l.length ≤ 32) && chkP (-1) l
def epsM (e : Int) : Bool := decide (0 ≤ e ∧ e ≤ 1099511627776)
def bothE (l : List Pt) (e : Int) : Int := if pointsM l then (if epsM e then 0 else 231) else 230
def bandP (eps : Int) (p : Pt) : Bnd := ⟨p.T, p.V - eps, p.V + eps⟩
def prevP (l : List Pt) : Nat → Int
  | 0 => -1
  | i + 1 => match l[i]? with | some p => p.T | none => -1
theorem prevP_pos {l : List Pt} {i : Nat} {z : Pt} (h : 0 < i) (hz : l[i - 1]? = some z) : prevP l i = z.T := by
 cases i with
 | zero => omega
 | succ i => simp only [Nat.add_sub_cancel] at hz; simp [prevP, hz]
theorem prevP_at {l : List Pt} {i : Nat} {y : Pt} (h : l[i]? = some y) : prevP l (i + 1) = y.T := by simp [prevP, h]
theorem pts_n {l : List Pt} (h : ¬ (1 ≤ l.length ∧ l.length ≤ 32)) : pointsM l = false := by simp only [pointsM, h, decide_false, Bool.false_and]
theorem pts_f {l : List Pt} (h : chkP (-1) l = false) : pointsM l = false := by simp [pointsM, h]
theorem pts_t {l : List Pt} (h : 1 ≤ l.length ∧ l.length ≤ 32) (h2 : chkP (-1) l = true) : pointsM l = true := by simp [pointsM, h, h2]
theorem chkP_f {last : Int} {p : Pt} {ps : List Pt} (h : ¬ ((0 ≤ p.T ∧ p.T ≤ 281474976710656 ∧ -2305843009213693952 ≤ p.V ∧ p.V ≤ 2305843009213693952) ∧ last < p.T)) : chkP last (p :: ps) = false := by
 simp only [chkP, ptB]
 by_cases h1 : last < p.T
 ·rw [decide_eq_false (p := 0 ≤ p.T ∧ p.T ≤ 281474976710656 ∧ -2305843009213693952 ≤ p.V ∧ p.V ≤ 2305843009213693952) (by omega), Bool.false_and]
 ·rw [decide_eq_false h1, Bool.false_and, Bool.and_false]
theorem chkP_y {last : Int} {p : Pt} {ps : List Pt} (h : 0 ≤ p.T ∧ p.T ≤ 281474976710656 ∧ -2305843009213693952 ≤ p.V ∧ p.V ≤ 2305843009213693952) (h2 : last < p.T) : chkP last (p :: ps) = chkP p.T ps := by
 simp only [chkP, ptB, decide_eq_true h, decide_eq_true h2, Bool.true_and]
def PtsOk (l : List Pt) : Prop := ∀ p ∈ l, 0 ≤ p.T ∧ p.T ≤ 281474976710656 ∧ -2305843009213693952 ≤ p.V ∧ p.V ≤ 2305843009213693952
theorem chkP_all : ∀ {l : List Pt} {last : Int}, chkP last l = true → ∀ p ∈ l, (0 ≤ p.T ∧ p.T ≤ 281474976710656 ∧ -2305843009213693952 ≤ p.V ∧ p.V ≤ 2305843009213693952) ∧ last < p.T
  | [], _, _, p, hp => by cases hp
  | x :: l, last, h, p, hp => by
    simp only [chkP, ptB, Bool.and_eq_true, decide_eq_true_eq] at h
    rcases List.mem_cons.1 hp with rfl | hp
    · exact ⟨h.1, h.2.1⟩
    · have := chkP_all h.2.2 p hp; omega
theorem pts_ok {l : List Pt} (h : pointsM l = true) : PtsOk l := fun p hp => by
  simp only [pointsM, Bool.and_eq_true, decide_eq_true_eq] at h
  exact (chkP_all h.2 p hp).1
theorem pts_len {l : List Pt} (h : pointsM l = true) : 1 ≤ l.length ∧ l.length ≤ 32 := by
 simp only [pointsM, Bool.and_eq_true, decide_eq_true_eq] at h; exact h.1
theorem c_wCheck (l : List Pt) (a : Option Addr) (c : Nat) : FnV Tryz.prog 18 #[.slice a l.length c] [rowI 2 encT l a c] (.int .i64 (if pointsM l then 0 else 230)) := by
 refine FnC.go (m := 54) Tryz.func18 Tryz.ntmps18 rfl (Nat.le_of_ble_eq_true rfl) (fun Lf => ?_)
 refine Wr ?_
 refine Oy rfl (Yl.assign rfl) ?_
 refine OW.nil ?_
 refine W.seq ?_
 refine Wr ?_
 refine Oy rfl (Yl.move rfl) ?_
 refine Oy rfl (Yl.len ⟨Tryz.underlying22, Tryz.sizeOf34⟩ rfl) ?_
 refine Oy rfl (Yl.eql rfl rfl) ?_
 refine Oy rfl (Yl.move rfl) ?_
 refine OW.split (t := 8) rfl (fun hq1 => ?_) (fun hq1 => ?_)
 ·have hq1d := of_decide_eq_true hq1
  refine OW.not (Wn.not rfl rfl rfl hq1) rfl ?_
  refine OW.not (Wn.not rfl rfl rfl hq1) rfl ?_
  refine OW.not (Wn.not rfl rfl rfl hq1) rfl ?_
  refine Oy rfl (Yl.pick_true rfl hq1 rfl) ?_
  refine OW.nil ?_
  refine W.cond_true rfl ?_
  refine Wr ?_
  refine Oy rfl (Yl.assign rfl) ?_
  refine OW.nil ?_
  refine W.ret ?_
  refine Fin.mk (Rsl.one rfl rfl) ⟨?_, rfl⟩ (by repeat constructor) (by repeat constructor)
  first | (rw [hv]; rfl) | (rw [pts_n (by omega)]; rfl) | (rw [pts_f (by rw [i1]; exact chkP_f (by omega))]; rfl)
 ·have hq1d := of_decide_eq_false hq1
  refine OW.yl (Wn.run rfl rfl rfl hq1) rfl (Yl.move rfl) ?_
  refine OW.yl (Wn.run rfl rfl rfl hq1) rfl (Yl.len ⟨Tryz.underlying22, Tryz.sizeOf34⟩ rfl) ?_
  refine OW.yl (Wn.run rfl rfl rfl hq1) rfl (Yl.gtr rfl rfl) ?_
  refine Oy rfl (Yl.pick_false rfl hq1 rfl) ?_
  refine OW.nil ?_
  refine W.cond rfl (fun hq2 => ?_) (fun hq2 => ?_)
  ·have hq2d := of_decide_eq_true hq2
   refine Wr ?_
   refine Oy rfl (Yl.assign rfl) ?_
   refine OW.nil ?_
   refine W.ret ?_
   refine Fin.mk (Rsl.one rfl rfl) ⟨?_, rfl⟩ (by repeat constructor) (by repeat constructor)
   first | (rw [hv]; rfl) | (rw [pts_n (by omega)]; rfl) | (rw [pts_f (by rw [i1]; exact chkP_f (by omega))]; rfl)
  ·have hq2d := of_decide_eq_false hq2
   refine W.skip ?_
   refine W.seq ?_
   refine Wr ?_
   refine Oy rfl (Yl.move rfl) ?_
   refine Oy rfl (Yl.len ⟨Tryz.underlying22, Tryz.sizeOf34⟩ rfl) ?_
   refine Oy rfl (Yl.move rfl) ?_
   refine OW.nil ?_
   refine W.block ?_
   refine W.loopS (X := (Nat)) (fun (i : (Nat)) => (i ≤ l.length ∧ (chkP (-1) l = chkP (prevP l i) (l.drop i) ∧ -1 ≤ prevP l i) : Prop)) (fun (i : (Nat)) => ([(15, .int .i64 (i : Int))] : Env)) (fun (i : (Nat)) => ([] : List Res)) (fun (i : (Nat)) => (l.length - i : Nat)) 0 [(0, _), (13, _), (14, _)] (by exact ⟨Nat.zero_le _, rfl, by simp [prevP]⟩) (Le.cons rfl (Le.cons rfl (Le.cons rfl (Le.cons rfl (Le.nil _))))) (by repeat constructor) ?_
   rintro i ⟨hi, hinv⟩
   show W _ _ _ _ _ _ ([(15, .int .i64 (i : Int))] ++ _) _ ([] ++ _)
   obtain ⟨i1, i2⟩ := hinv
   refine Wr ?_
   refine Oy rfl (Yl.lss rfl rfl) ?_
   refine OW.nil ?_
   refine W.seq ?_
   refine W.cond rfl (fun hq3 => ?_) (fun hq3 => ?_)
   ·have hq3d := of_decide_eq_true hq3
    obtain ⟨y, hy, hdr⟩ := drop_at (l := l) (i := i) (by omega)
    rw [hdr] at i1
    refine W.skip ?_
    refine W.seq ?_
    refine W.block ?_
    refine Wr ?_
    refine Oy rfl (Yl.move rfl) ?_
    refine OW.fact (Sl.isSome (by repeat constructor) (by omega)) ?_
    rintro ⟨p1, hp1⟩; try dsimp only at hp1
    subst hp1
    refine Oy rfl (Yl.indexS i ⟨Tryz.underlying22, Tryz.sizeOf34⟩ rfl rfl rfl (by omega)) ?_
    refine Oy rfl (Yl.loadE ⟨Tryz.isAgg34, Tryz.sizeOf34⟩ rfl (by repeat constructor) (map_at hy)) ?_
    refine OW.alloc (Wn.plain rfl) rfl Tryz.zeroValue34 (by constructor) (fun b1 => ?_)
    refine Oy rfl (Yl.assign rfl) ?_
    refine OW.store (Wn.plain rfl) Tryz.sizeOf34 rfl rfl (by constructor) (by repeat constructor) rfl (by repeat constructor) (by repeat constructor) ?_
    refine OW.nil ?_
    refine W.seq ?_
    refine W.draw mixed ?_
    refine Aq (i := 0) rfl (Wn.plain rfl) rfl (fun _ => Yl.fieldL 0 (fa_34_0) rfl rfl) ?_
    refine Al (i := 1) rfl (Wn.plain rfl) rfl (by repeat constructor) (Yl.load1 Tryz.isAgg2 rfl .head (by repeat constructor)) ?_
    refine Aq (i := 2) rfl (Wn.plain rfl) rfl (fun _ => Yl.lss rfl rfl) ?_
    refine Aq (i := 3) rfl (Wn.plain rfl) rfl (fun _ => Yl.move rfl) ?_
    refine AW.split (t := 23) rfl (fun hq4 => ?_) (fun hq4 => ?_)
    ·have hq4d := of_decide_eq_true hq4
     refine AW.not (i := 4) rfl (by kernel_rfl) (by kernel_rfl) (by kernel_rfl) (Wn.not rfl rfl rfl hq4) rfl ?_
     refine AW.not (i := 5) rfl (by kernel_rfl) (by kernel_rfl) (by kernel_rfl) (Wn.not rfl rfl rfl hq4) rfl ?_
     refine AW.not (i := 6) rfl (by kernel_rfl) (by kernel_rfl) (by kernel_rfl) (Wn.not rfl rfl rfl hq4) rfl ?_
     refine Aq (i := 7) rfl (Wn.plain rfl) rfl (fun _ => Yl.pick_true rfl hq4 rfl) ?_
     refine Aq (i := 8) rfl (Wn.plain rfl) rfl (fun _ => Yl.move rfl) ?_
     refine AW.not (i := 9) rfl (by kernel_rfl) (by kernel_rfl) (by kernel_rfl) (Wn.not rfl rfl rfl rfl) rfl ?_
     refine AW.not (i := 10) rfl (by kernel_rfl) (by kernel_rfl) (by kernel_rfl) (Wn.not rfl rfl rfl rfl) rfl ?_
     refine AW.not (i := 11) rfl (by kernel_rfl) (by kernel_rfl) (by kernel_rfl) (Wn.not rfl rfl rfl rfl) rfl ?_
     refine Aq (i := 12) rfl (Wn.plain rfl) rfl (fun _ => Yl.pick_true rfl rfl rfl) ?_
     refine Aq (i := 13) rfl (Wn.plain rfl) rfl (fun _ => Yl.move rfl) ?_
     refine AW.not (i := 14) rfl (by kernel_rfl) (by kernel_rfl) (by kernel_rfl) (Wn.not rfl rfl rfl rfl) rfl ?_
     refine AW.not (i := 15) rfl (by kernel_rfl) (by kernel_rfl) (by kernel_rfl) (Wn.not rfl rfl rfl rfl) rfl ?_
     refine AW.not (i := 16) rfl (by kernel_rfl) (by kernel_rfl) (by kernel_rfl) (Wn.not rfl rfl rfl rfl) rfl ?_
     refine Aq (i := 17) rfl (Wn.plain rfl) rfl (fun _ => Yl.pick_true rfl rfl rfl) ?_
     refine Aq (i := 18) rfl (Wn.plain rfl) rfl (fun _ => Yl.move rfl) ?_
     refine AW.not (i := 19) rfl (by kernel_rfl) (by kernel_rfl) (by kernel_rfl) (Wn.not rfl rfl rfl rfl) rfl ?_
     refine AW.not (i := 20) rfl (by kernel_rfl) (by kernel_rfl) (by kernel_rfl) (Wn.not rfl rfl rfl rfl) rfl ?_
     refine AW.not (i := 21) rfl (by kernel_rfl) (by kernel_rfl) (by kernel_rfl) (Wn.not rfl rfl rfl rfl) rfl ?_
     refine AW.not (i := 22) rfl (by kernel_rfl) (by kernel_rfl) (by kernel_rfl) (Wn.nob rfl rfl rfl) rfl ?_
     refine AW.not (i := 23) rfl (by kernel_rfl) (by kernel_rfl) (by kernel_rfl) (Wn.nob rfl rfl rfl) rfl ?_
     refine AW.not (i := 24) rfl (by kernel_rfl) (by kernel_rfl) (by kernel_rfl) (Wn.nob rfl rfl rfl) rfl ?_
     refine AW.not (i := 25) rfl (by kernel_rfl) (by kernel_rfl) (by kernel_rfl) (Wn.nob rfl rfl rfl) rfl ?_
     refine AW.not (i := 26) rfl (by kernel_rfl) (by kernel_rfl) (by kernel_rfl) (Wn.nob rfl rfl rfl) rfl ?_
     refine AW.not (i := 27) rfl (by kernel_rfl) (by kernel_rfl) (by kernel_rfl) (Wn.nob rfl rfl rfl) rfl ?_
     refine AW.not (i := 28) rfl (by kernel_rfl) (by kernel_rfl) (by kernel_rfl) (Wn.nob rfl rfl rfl) rfl ?_
     refine AW.not (i := 29) rfl (by kernel_rfl) (by kernel_rfl) (by kernel_rfl) (Wn.nob rfl rfl rfl) rfl ?_
     refine AW.not (i := 30) rfl (by kernel_rfl) (by kernel_rfl) (by kernel_rfl) (Wn.nob rfl rfl rfl) rfl ?_
     refine AW.not (i := 31) rfl (by kernel_rfl) (by kernel_rfl) (by kernel_rfl) (Wn.not rfl rfl rfl rfl) rfl ?_
     refine Aq (i := 32) rfl (Wn.plain rfl) rfl (fun _ => Yl.pick_true rfl rfl rfl) ?_
     refine AW.done (by kernel_rfl) ?_
     refine W.cond_true rfl ?_
     refine Wr ?_
     refine Oy rfl (Yl.assign rfl) ?_
     refine OW.nil ?_
     refine W.ret ?_
     refine Fin.mk (Rsl.one rfl rfl) ⟨?_, rfl⟩ (by repeat constructor) (by repeat constructor)
     first | (rw [hv]; rfl) | (rw [pts_n (by omega)]; rfl) | (rw [pts_f (by rw [i1]; exact chkP_f (by omega))]; rfl)
    ·have hq4d := of_decide_eq_false hq4
     refine Aq (i := 4) rfl (Wn.run rfl rfl rfl hq4) rfl (fun _ => Yl.fieldL 0 (fa_34_0) rfl rfl) ?_
     refine Al (i := 5) rfl (Wn.run rfl rfl rfl hq4) rfl (by repeat constructor) (Yl.load1 Tryz.isAgg2 rfl .head (by repeat constructor)) ?_
     refine Aq (i := 6) rfl (Wn.run rfl rfl rfl hq4) rfl (fun _ => Yl.gtr rfl rfl) ?_
     refine Aq (i := 7) rfl (Wn.plain rfl) rfl (fun _ => Yl.pick_false rfl hq4 rfl) ?_
     refine Aq (i := 8) rfl (Wn.plain rfl) rfl (fun _ => Yl.move rfl) ?_
     refine AW.split (t := 28) rfl (fun hq5 => ?_) (fun hq5 => ?_)
     ·have hq5d := of_decide_eq_true hq5
      refine AW.not (i := 9) rfl (by kernel_rfl) (by kernel_rfl) (by kernel_rfl) (Wn.not rfl rfl rfl hq5) rfl ?_
      refine AW.not (i := 10) rfl (by kernel_rfl) (by kernel_rfl) (by kernel_rfl) (Wn.not rfl rfl rfl hq5) rfl ?_
      refine AW.not (i := 11) rfl (by kernel_rfl) (by kernel_rfl) (by kernel_rfl) (Wn.not rfl rfl rfl hq5) rfl ?_
      refine Aq (i := 12) rfl (Wn.plain rfl) rfl (fun _ => Yl.pick_true rfl hq5 rfl) ?_
      refine Aq (i := 13) rfl (Wn.plain rfl) rfl (fun _ => Yl.move rfl) ?_
      refine AW.not (i := 14) rfl (by kernel_rfl) (by kernel_rfl) (by kernel_rfl) (Wn.not rfl rfl rfl rfl) rfl ?_
      refine AW.not (i := 15) rfl (by kernel_rfl) (by kernel_rfl) (by kernel_rfl) (Wn.not rfl rfl rfl rfl) rfl ?_
      refine AW.not (i := 16) rfl (by kernel_rfl) (by kernel_rfl) (by kernel_rfl) (Wn.not rfl rfl rfl rfl) rfl ?_
      refine Aq (i := 17) rfl (Wn.plain rfl) rfl (fun _ => Yl.pick_true rfl rfl rfl) ?_
      refine Aq (i := 18) rfl (Wn.plain rfl) rfl (fun _ => Yl.move rfl) ?_
      refine AW.not (i := 19) rfl (by kernel_rfl) (by kernel_rfl) (by kernel_rfl) (Wn.not rfl rfl rfl rfl) rfl ?_
      refine AW.not (i := 20) rfl (by kernel_rfl) (by kernel_rfl) (by kernel_rfl) (Wn.not rfl rfl rfl rfl) rfl ?_
      refine AW.not (i := 21) rfl (by kernel_rfl) (by kernel_rfl) (by kernel_rfl) (Wn.not rfl rfl rfl rfl) rfl ?_
      refine AW.not (i := 22) rfl (by kernel_rfl) (by kernel_rfl) (by kernel_rfl) (Wn.nob rfl rfl rfl) rfl ?_
      refine AW.not (i := 23) rfl (by kernel_rfl) (by kernel_rfl) (by kernel_rfl) (Wn.nob rfl rfl rfl) rfl ?_
      refine AW.not (i := 24) rfl (by kernel_rfl) (by kernel_rfl) (by kernel_rfl) (Wn.nob rfl rfl rfl) rfl ?_
      refine AW.not (i := 25) rfl (by kernel_rfl) (by kernel_rfl) (by kernel_rfl) (Wn.nob rfl rfl rfl) rfl ?_
      refine AW.not (i := 26) rfl (by kernel_rfl) (by kernel_rfl) (by kernel_rfl) (Wn.nob rfl rfl rfl) rfl ?_
      refine AW.not (i := 27) rfl (by kernel_rfl) (by kernel_rfl) (by kernel_rfl) (Wn.nob rfl rfl rfl) rfl ?_
      refine AW.not (i := 28) rfl (by kernel_rfl) (by kernel_rfl) (by kernel_rfl) (Wn.nob rfl rfl rfl) rfl ?_
      refine AW.not (i := 29) rfl (by kernel_rfl) (by kernel_rfl) (by kernel_rfl) (Wn.nob rfl rfl rfl) rfl ?_
      refine AW.not (i := 30) rfl (by kernel_rfl) (by kernel_rfl) (by kernel_rfl) (Wn.nob rfl rfl rfl) rfl ?_
      refine AW.not (i := 31) rfl (by kernel_rfl) (by kernel_rfl) (by kernel_rfl) (Wn.not rfl rfl rfl rfl) rfl ?_
      refine Aq (i := 32) rfl (Wn.plain rfl) rfl (fun _ => Yl.pick_true rfl rfl rfl) ?_
      refine AW.done (by kernel_rfl) ?_
      refine W.cond_true rfl ?_
      refine Wr ?_
      refine Oy rfl (Yl.assign rfl) ?_
      refine OW.nil ?_
      refine W.ret ?_
      refine Fin.mk (Rsl.one rfl rfl) ⟨?_, rfl⟩ (by repeat constructor) (by repeat constructor)
      first | (rw [hv]; rfl) | (rw [pts_n (by omega)]; rfl) | (rw [pts_f (by rw [i1]; exact chkP_f (by omega))]; rfl)
     ·have hq5d := of_decide_eq_false hq5
      refine Aq (i := 9) rfl (Wn.run rfl rfl rfl hq5) rfl (fun _ => Yl.fieldL 1 (fa_34_1) rfl rfl) ?_
      refine Al (i := 10) rfl (Wn.run rfl rfl rfl hq5) rfl (by repeat constructor) (Yl.load1 Tryz.isAgg2 rfl .head (by repeat constructor)) ?_
      refine Aq (i := 11) rfl (Wn.run rfl rfl rfl hq5) rfl (fun _ => Yl.lss rfl rfl) ?_
      refine Aq (i := 12) rfl (Wn.plain rfl) rfl (fun _ => Yl.pick_false rfl hq5 rfl) ?_
      refine Aq (i := 13) rfl (Wn.plain rfl) rfl (fun _ => Yl.move rfl) ?_
      refine AW.split (t := 33) rfl (fun hq6 => ?_) (fun hq6 => ?_)
      ·have hq6d := of_decide_eq_true hq6
       refine AW.not (i := 14) rfl (by kernel_rfl) (by kernel_rfl) (by kernel_rfl) (Wn.not rfl rfl rfl hq6) rfl ?_
       refine AW.not (i := 15) rfl (by kernel_rfl) (by kernel_rfl) (by kernel_rfl) (Wn.not rfl rfl rfl hq6) rfl ?_
       refine AW.not (i := 16) rfl (by kernel_rfl) (by kernel_rfl) (by kernel_rfl) (Wn.not rfl rfl rfl hq6) rfl ?_
       refine Aq (i := 17) rfl (Wn.plain rfl) rfl (fun _ => Yl.pick_true rfl hq6 rfl) ?_
       refine Aq (i := 18) rfl (Wn.plain rfl) rfl (fun _ => Yl.move rfl) ?_
       refine AW.not (i := 19) rfl (by kernel_rfl) (by kernel_rfl) (by kernel_rfl) (Wn.not rfl rfl rfl rfl) rfl ?_
       refine AW.not (i := 20) rfl (by kernel_rfl) (by kernel_rfl) (by kernel_rfl) (Wn.not rfl rfl rfl rfl) rfl ?_
       refine AW.not (i := 21) rfl (by kernel_rfl) (by kernel_rfl) (by kernel_rfl) (Wn.not rfl rfl rfl rfl) rfl ?_
       refine AW.not (i := 22) rfl (by kernel_rfl) (by kernel_rfl) (by kernel_rfl) (Wn.nob rfl rfl rfl) rfl ?_
       refine AW.not (i := 23) rfl (by kernel_rfl) (by kernel_rfl) (by kernel_rfl) (Wn.nob rfl rfl rfl) rfl ?_
       refine AW.not (i := 24) rfl (by kernel_rfl) (by kernel_rfl) (by kernel_rfl) (Wn.nob rfl rfl rfl) rfl ?_
       refine AW.not (i := 25) rfl (by kernel_rfl) (by kernel_rfl) (by kernel_rfl) (Wn.nob rfl rfl rfl) rfl ?_
       refine AW.not (i := 26) rfl (by kernel_rfl) (by kernel_rfl) (by kernel_rfl) (Wn.nob rfl rfl rfl) rfl ?_
       refine AW.not (i := 27) rfl (by kernel_rfl) (by kernel_rfl) (by kernel_rfl) (Wn.nob rfl rfl rfl) rfl ?_
       refine AW.not (i := 28) rfl (by kernel_rfl) (by kernel_rfl) (by kernel_rfl) (Wn.nob rfl rfl rfl) rfl ?_
       refine AW.not (i := 29) rfl (by kernel_rfl) (by kernel_rfl) (by kernel_rfl) (Wn.nob rfl rfl rfl) rfl ?_
       refine AW.not (i := 30) rfl (by kernel_rfl) (by kernel_rfl) (by kernel_rfl) (Wn.nob rfl rfl rfl) rfl ?_
       refine AW.not (i := 31) rfl (by kernel_rfl) (by kernel_rfl) (by kernel_rfl) (Wn.not rfl rfl rfl rfl) rfl ?_
       refine Aq (i := 32) rfl (Wn.plain rfl) rfl (fun _ => Yl.pick_true rfl rfl rfl) ?_
       refine AW.done (by kernel_rfl) ?_
       refine W.cond_true rfl ?_
       refine Wr ?_
       refine Oy rfl (Yl.assign rfl) ?_
       refine OW.nil ?_
       refine W.ret ?_
       refine Fin.mk (Rsl.one rfl rfl) ⟨?_, rfl⟩ (by repeat constructor) (by repeat constructor)
       first | (rw [hv]; rfl) | (rw [pts_n (by omega)]; rfl) | (rw [pts_f (by rw [i1]; exact chkP_f (by omega))]; rfl)
      ·have hq6d := of_decide_eq_false hq6
       refine Aq (i := 14) rfl (Wn.run rfl rfl rfl hq6) rfl (fun _ => Yl.fieldL 1 (fa_34_1) rfl rfl) ?_
       refine Al (i := 15) rfl (Wn.run rfl rfl rfl hq6) rfl (by repeat constructor) (Yl.load1 Tryz.isAgg2 rfl .head (by repeat constructor)) ?_
       refine Aq (i := 16) rfl (Wn.run rfl rfl rfl hq6) rfl (fun _ => Yl.gtr rfl rfl) ?_
       refine Aq (i := 17) rfl (Wn.plain rfl) rfl (fun _ => Yl.pick_false rfl hq6 rfl) ?_
       refine Aq (i := 18) rfl (Wn.plain rfl) rfl (fun _ => Yl.move rfl) ?_
       refine AW.split (t := 38) rfl (fun hq7 => ?_) (fun hq7 => ?_)
       ·have hq7d := of_decide_eq_true hq7
        refine AW.not (i := 19) rfl (by kernel_rfl) (by kernel_rfl) (by kernel_rfl) (Wn.not rfl rfl rfl hq7) rfl ?_
        refine AW.not (i := 20) rfl (by kernel_rfl) (by kernel_rfl) (by kernel_rfl) (Wn.not rfl rfl rfl hq7) rfl ?_
        refine AW.not (i := 21) rfl (by kernel_rfl) (by kernel_rfl) (by kernel_rfl) (Wn.not rfl rfl rfl hq7) rfl ?_
        refine AW.not (i := 22) rfl (by kernel_rfl) (by kernel_rfl) (by kernel_rfl) (Wn.nob rfl rfl rfl) rfl ?_
        refine AW.not (i := 23) rfl (by kernel_rfl) (by kernel_rfl) (by kernel_rfl) (Wn.nob rfl rfl rfl) rfl ?_
        refine AW.not (i := 24) rfl (by kernel_rfl) (by kernel_rfl) (by kernel_rfl) (Wn.nob rfl rfl rfl) rfl ?_
        refine AW.not (i := 25) rfl (by kernel_rfl) (by kernel_rfl) (by kernel_rfl) (Wn.nob rfl rfl rfl) rfl ?_
        refine AW.not (i := 26) rfl (by kernel_rfl) (by kernel_rfl) (by kernel_rfl) (Wn.nob rfl rfl rfl) rfl ?_
        refine AW.not (i := 27) rfl (by kernel_rfl) (by kernel_rfl) (by kernel_rfl) (Wn.nob rfl rfl rfl) rfl ?_
        refine AW.not (i := 28) rfl (by kernel_rfl) (by kernel_rfl) (by kernel_rfl) (Wn.nob rfl rfl rfl) rfl ?_
        refine AW.not (i := 29) rfl (by kernel_rfl) (by kernel_rfl) (by kernel_rfl) (Wn.nob rfl rfl rfl) rfl ?_
        refine AW.not (i := 30) rfl (by kernel_rfl) (by kernel_rfl) (by kernel_rfl) (Wn.nob rfl rfl rfl) rfl ?_
        refine AW.not (i := 31) rfl (by kernel_rfl) (by kernel_rfl) (by kernel_rfl) (Wn.not rfl rfl rfl hq7) rfl ?_
        refine Aq (i := 32) rfl (Wn.plain rfl) rfl (fun _ => Yl.pick_true rfl hq7 rfl) ?_
        refine AW.done (by kernel_rfl) ?_
        refine W.cond_true rfl ?_
        refine Wr ?_
        refine Oy rfl (Yl.assign rfl) ?_
        refine OW.nil ?_
        refine W.ret ?_
        refine Fin.mk (Rsl.one rfl rfl) ⟨?_, rfl⟩ (by repeat constructor) (by repeat constructor)
        first | (rw [hv]; rfl) | (rw [pts_n (by omega)]; rfl) | (rw [pts_f (by rw [i1]; exact chkP_f (by omega))]; rfl)
       ·have hq7d := of_decide_eq_false hq7
        refine Aq (i := 19) rfl (Wn.run rfl rfl rfl hq7) rfl (fun _ => Yl.move rfl) ?_
        refine Aq (i := 20) rfl (Wn.run rfl rfl rfl hq7) rfl (fun _ => Yl.gtr rfl rfl) ?_
        refine Aq (i := 21) rfl (Wn.run rfl rfl rfl hq7) rfl (fun _ => Yl.move rfl) ?_
        refine AW.split (t := 41) rfl (fun hq8 => ?_) (fun hq8 => ?_)
        ·have hq8d := of_decide_eq_true hq8
         obtain ⟨z, hz⟩ : ∃ z, l[i - 1]? = some z := ⟨_, List.getElem?_eq_getElem (by omega)⟩
         rw [prevP_pos (by omega) hz] at i1
         refine Aq (i := 22) rfl (Wn.run rfl rfl rfl hq8) rfl (fun _ => Yl.move rfl) ?_
         refine Aq (i := 23) rfl (Wn.run rfl rfl rfl hq8) rfl (fun _ => Yl.move rfl) ?_
         refine Aq (i := 24) rfl (Wn.run rfl rfl rfl hq8) rfl (fun _ => Yl.sub rfl rfl (by omega)) ?_
         refine Aq (i := 25) rfl (Wn.run rfl rfl rfl hq8) rfl (fun _ => Yl.indexS (i - 1) ⟨Tryz.underlying22, Tryz.sizeOf34⟩ rfl rfl (by omega) (by omega)) ?_
         refine Aq (i := 26) rfl (Wn.run rfl rfl rfl hq8) rfl (fun _ => Yl.fieldA (fa_34_0) rfl) ?_
         refine Al (i := 27) rfl (Wn.run rfl rfl rfl hq8) rfl (by repeat constructor) (Yl.loadS Tryz.isAgg2 rfl .head (map_at hz) (by repeat constructor)) ?_
         refine Aq (i := 28) rfl (Wn.run rfl rfl rfl hq8) rfl (fun _ => Yl.fieldL 0 (fa_34_0) rfl rfl) ?_
         refine Al (i := 29) rfl (Wn.run rfl rfl rfl hq8) rfl (by repeat constructor) (Yl.load1 Tryz.isAgg2 rfl .head (by repeat constructor)) ?_
         refine Aq (i := 30) rfl (Wn.run rfl rfl rfl hq8) rfl (fun _ => Yl.geq rfl rfl) ?_
         refine Aq (i := 31) rfl (Wn.run rfl rfl rfl hq7) rfl (fun _ => Yl.pick_true rfl hq8 rfl) ?_
         refine Aq (i := 32) rfl (Wn.plain rfl) rfl (fun _ => Yl.pick_false rfl hq7 rfl) ?_
         refine AW.done (by kernel_rfl) ?_
         refine W.cond rfl (fun hq9 => ?_) (fun hq9 => ?_)
         ·have hq9d := of_decide_eq_true hq9
          refine Wr ?_
          refine Oy rfl (Yl.assign rfl) ?_
          refine OW.nil ?_
          refine W.ret ?_
          refine Fin.mk (Rsl.one rfl rfl) ⟨?_, rfl⟩ (by repeat constructor) (by repeat constructor)
          first | (rw [hv]; rfl) | (rw [pts_n (by omega)]; rfl) | (rw [pts_f (by rw [i1]; exact chkP_f (by omega))]; rfl)
         ·have hq9d := of_decide_eq_false hq9
          refine W.skip ?_
          refine W.region ?_
          refine Oy rfl (Yl.add rfl rfl (by omega)) ?_
          refine Oy rfl (Yl.move rfl) ?_
          refine OW.nil ?_
          refine ⟨i + 1, _, ⟨by omega, ?_⟩, (Le.cons rfl (Le.cons rfl (Le.cons rfl (Le.cons rfl (Le.nil _))))), rfl, by repeat constructor, by repeat constructor, by first | omega | (dsimp only; omega)⟩
          have e := prevP_at hy
          first | exact ⟨by rw [i1, e]; exact chkP_y (by omega) (by omega), by rw [e]; omega⟩ | exact ⟨by rw [i1, e]; exact chkP_y (by omega) (by have h0 : i = 0 := (by omega); subst h0; simp only [prevP]; omega), by rw [e]; omega⟩
        ·have hq8d := of_decide_eq_false hq8
         refine AW.not (i := 22) rfl (by kernel_rfl) (by kernel_rfl) (by kernel_rfl) (Wn.not rfl rfl rfl hq8) rfl ?_
         refine AW.not (i := 23) rfl (by kernel_rfl) (by kernel_rfl) (by kernel_rfl) (Wn.not rfl rfl rfl hq8) rfl ?_
         refine AW.not (i := 24) rfl (by kernel_rfl) (by kernel_rfl) (by kernel_rfl) (Wn.not rfl rfl rfl hq8) rfl ?_
         refine AW.not (i := 25) rfl (by kernel_rfl) (by kernel_rfl) (by kernel_rfl) (Wn.not rfl rfl rfl hq8) rfl ?_
         refine AW.not (i := 26) rfl (by kernel_rfl) (by kernel_rfl) (by kernel_rfl) (Wn.not rfl rfl rfl hq8) rfl ?_
         refine AW.not (i := 27) rfl (by kernel_rfl) (by kernel_rfl) (by kernel_rfl) (Wn.not rfl rfl rfl hq8) rfl ?_
         refine AW.not (i := 28) rfl (by kernel_rfl) (by kernel_rfl) (by kernel_rfl) (Wn.not rfl rfl rfl hq8) rfl ?_
         refine AW.not (i := 29) rfl (by kernel_rfl) (by kernel_rfl) (by kernel_rfl) (Wn.not rfl rfl rfl hq8) rfl ?_
         refine AW.not (i := 30) rfl (by kernel_rfl) (by kernel_rfl) (by kernel_rfl) (Wn.not rfl rfl rfl hq8) rfl ?_
         refine Aq (i := 31) rfl (Wn.run rfl rfl rfl hq7) rfl (fun _ => Yl.pick_false rfl hq8 rfl) ?_
         refine Aq (i := 32) rfl (Wn.plain rfl) rfl (fun _ => Yl.pick_false rfl hq7 rfl) ?_
         refine AW.done (by kernel_rfl) ?_
         refine W.cond_false rfl ?_
         refine W.skip ?_
         refine W.region ?_
         refine Oy rfl (Yl.add rfl rfl (by omega)) ?_
         refine Oy rfl (Yl.move rfl) ?_
         refine OW.nil ?_
         refine ⟨i + 1, _, ⟨by omega, ?_⟩, (Le.cons rfl (Le.cons rfl (Le.cons rfl (Le.cons rfl (Le.nil _))))), rfl, by repeat constructor, by repeat constructor, by first | omega | (dsimp only; omega)⟩
         have e := prevP_at hy
         first | exact ⟨by rw [i1, e]; exact chkP_y (by omega) (by omega), by rw [e]; omega⟩ | exact ⟨by rw [i1, e]; exact chkP_y (by omega) (by have h0 : i = 0 := (by omega); subst h0; simp only [prevP]; omega), by rw [e]; omega⟩
   ·have hq3d := of_decide_eq_false hq3
    rw [drop_end (by omega)] at i1
    have hv : pointsM l = true := pts_t (by omega) i1
    refine W.exit ?_
    refine Wr ?_
    refine Oy rfl (Yl.assign rfl) ?_
    refine OW.nil ?_
    refine W.ret ?_
    refine Fin.mk (Rsl.one rfl rfl) ⟨?_, rfl⟩ (by repeat constructor) (by repeat constructor)
    first | (rw [hv]; rfl) | (rw [pts_n (by omega)]; rfl) | (rw [pts_f (by rw [i1]; exact chkP_f (by omega))]; rfl)
theorem c_wboth (l : List Pt) (a : Option Addr) (c : Nat) (eps : Int) : FnV Tryz.prog 37 #[.slice a l.length c, .int .i64 eps] [rowI 2 encT l a c] (.int .i64 (bothE l eps)) := by
 refine FnC.go (m := 17) Tryz.func37 Tryz.ntmps37 rfl (Nat.le_of_ble_eq_true rfl) (fun Lf => ?_)
 refine Wr ?_
 refine Oy rfl (Yl.assign rfl) ?_
 refine OW.nil ?_
 refine W.seq ?_
 refine Wr ?_
 refine Oy rfl (Yl.move rfl) ?_
 refine OW.callv (Wn.plain rfl) rfl Tryz.call18 rfl (c_wCheck _ _ _) (by repeat constructor) ?_
 refine Oy rfl (Yl.assign rfl) ?_
 refine OW.nil ?_
 refine Wr ?_
 refine Oy rfl (Yl.move rfl) ?_
 refine Oy rfl (Yl.neq rfl rfl) ?_
 refine OW.nil ?_
 refine W.cond rfl (fun hq1 => ?_) (fun hq1 => ?_)
 ·have hq1d := of_decide_eq_true hq1
  have hp : pointsM l = false := by (cases h : pointsM l; rfl; simp [h] at hq1d)
  refine Wr ?_
  refine Oy rfl (Yl.move rfl) ?_
  refine Oy rfl (Yl.assign rfl) ?_
  refine OW.nil ?_
  refine W.ret ?_
  refine Fin.mk (Rsl.one rfl rfl) ⟨?_, rfl⟩ (by repeat constructor) (by repeat constructor)
  unfold bothE
  rw [hp]
  first | (rw [show epsM eps = false from decide_eq_false (by omega)]; rfl) | (rw [show epsM eps = true from decide_eq_true (by omega)]; rfl) | rfl
 ·have hq1d := of_decide_eq_false hq1
  have hp : pointsM l = true := by (cases h : pointsM l; simp [h] at hq1d; rfl)
  refine W.skip ?_
  refine W.seq ?_
  refine Wr ?_
  refine Oy rfl (Yl.move rfl) ?_
  refine Oy rfl (Yl.lss rfl rfl) ?_
  refine Oy rfl (Yl.move rfl) ?_
  refine OW.split (t := 13) rfl (fun hq2 => ?_) (fun hq2 => ?_)
  ·have hq2d := of_decide_eq_true hq2
   refine OW.not (Wn.not rfl rfl rfl hq2) rfl ?_
   refine OW.not (Wn.not rfl rfl rfl hq2) rfl ?_
   refine Oy rfl (Yl.pick_true rfl hq2 rfl) ?_
   refine OW.nil ?_
   refine W.cond_true rfl ?_
   refine Wr ?_
   refine Oy rfl (Yl.assign rfl) ?_
   refine OW.nil ?_
   refine W.ret ?_
   refine Fin.mk (Rsl.one rfl rfl) ⟨?_, rfl⟩ (by repeat constructor) (by repeat constructor)
   unfold bothE
   rw [hp]
   first | (rw [show epsM eps = false from decide_eq_false (by omega)]; rfl) | (rw [show epsM eps = true from decide_eq_true (by omega)]; rfl) | rfl
  ·have hq2d := of_decide_eq_false hq2
   refine OW.yl (Wn.run rfl rfl rfl hq2) rfl (Yl.move rfl) ?_
   refine OW.yl (Wn.run rfl rfl rfl hq2) rfl (Yl.gtr rfl rfl) ?_
   refine Oy rfl (Yl.pick_false rfl hq2 rfl) ?_
   refine OW.nil ?_
   refine W.cond rfl (fun hq3 => ?_) (fun hq3 => ?_)
   ·have hq3d := of_decide_eq_true hq3
    refine Wr ?_
    refine Oy rfl (Yl.assign rfl) ?_
    refine OW.nil ?_
    refine W.ret ?_
    refine Fin.mk (Rsl.one rfl rfl) ⟨?_, rfl⟩ (by repeat constructor) (by repeat constructor)
    unfold bothE
    rw [hp]
    first | (rw [show epsM eps = false from decide_eq_false (by omega)]; rfl) | (rw [show epsM eps = true from decide_eq_true (by omega)]; rfl) | rfl
   ·have hq3d := of_decide_eq_false hq3
    refine W.skip ?_
    refine Wr ?_
    refine Oy rfl (Yl.assign rfl) ?_
    refine OW.nil ?_
    refine W.ret ?_
    refine Fin.mk (Rsl.one rfl rfl) ⟨?_, rfl⟩ (by repeat constructor) (by repeat constructor)
    unfold bothE
    rw [hp]
    first | (rw [show epsM eps = false from decide_eq_false (by omega)]; rfl) | (rw [show epsM eps = true from decide_eq_true (by omega)]; rfl) | rfl
theorem c_wof1 (p : Pt) : FnV Tryz.prog 122 #[.agg (encT p).toArray] [] (.int .i64 p.T) := by
 refine FnC.go (m := 5) Tryz.func122 Tryz.ntmps122 rfl (Nat.le_of_ble_eq_true rfl) (fun Lf => ?_)
 refine Wr ?_
 refine OW.box (Wn.plain rfl) rfl rfl (by constructor) (fun b1 => ?_)
 refine Oy rfl (Yl.assign rfl) ?_
 refine OW.nil ?_
 refine Wr ?_
 refine Oy rfl (Yl.fieldL 0 (fa_34_0) rfl rfl) ?_
 refine Oy rfl (Yl.load1 Tryz.isAgg2 rfl (by repeat constructor) (by repeat constructor)) ?_
 refine Oy rfl (Yl.assign rfl) ?_
 refine OW.nil ?_
 refine W.ret ?_
 refine Fin.mk (Rsl.one rfl rfl) ⟨?_, rfl⟩ (by repeat constructor) (by repeat constructor)
 rfl
theorem c_wallT (l : List Pt) (a : Option Addr) (c : Nat) (hl : l.length ≤ 4000) : FnC Tryz.prog 121 #[.slice a l.length c, .func (.func 122) #[] #[]] [rowI 2 encT l a c] (RetRow 1 encI (l.map Pt.T)) := by
 refine FnC.go (m := 25) Tryz.func121 Tryz.ntmps121 rfl (Nat.le_of_ble_eq_true rfl) (fun Lf => ?_)
 refine Wr ?_
 refine Oy rfl (Yl.assign rfl) ?_
 refine OW.nil ?_
 refine Wr ?_
 refine Oy rfl (Yl.move rfl) ?_
 refine Oy rfl (Yl.len ⟨Tryz.underlying22, Tryz.sizeOf34⟩ rfl) ?_
 refine OW.make0 (l.length) (Wn.plain rfl) rfl rw_51 rfl rfl rfl (by first | omega | (unfold maxLen; omega)) (by first | omega | (unfold maxLen; omega)) (fun a1 c1 => ?_)
 refine Oy rfl (Yl.assign rfl) ?_
 refine OW.nil ?_
 refine W.seq ?_
 refine Wr ?_
 refine Oy rfl (Yl.move rfl) ?_
 refine Oy rfl (Yl.len ⟨Tryz.underlying22, Tryz.sizeOf34⟩ rfl) ?_
 refine Oy rfl (Yl.move rfl) ?_
 refine OW.nil ?_
 refine W.block ?_
 refine W.loopS (X := (Nat) × (List Int) × (Option Addr) × (Nat)) (fun (x : (Nat) × (List Int) × (Option Addr) × (Nat)) => match x with | (i, ys, oa, oc) => (i ≤ l.length ∧ (ys = (l.take i).map Pt.T) : Prop)) (fun (x : (Nat) × (List Int) × (Option Addr) × (Nat)) => match x with | (i, ys, oa, oc) => ([(13, .int .i64 (i : Int)), (5, .slice oa ys.length oc)] : Env)) (fun (x : (Nat) × (List Int) × (Option Addr) × (Nat)) => match x with | (i, ys, oa, oc) => ([rowR 2 1 encI ys oa oc] : List Res)) (fun (x : (Nat) × (List Int) × (Option Addr) × (Nat)) => match x with | (i, ys, oa, oc) => (l.length - i : Nat)) (0, [], _, _) [(1, _), (4, _), (11, _), (12, _)] (by exact ⟨Nat.zero_le _, rfl⟩) (Le.cons rfl (Le.cons rfl (Le.cons rfl (Le.cons rfl (Le.cons rfl (Le.cons rfl (Le.nil _))))))) (by repeat constructor) ?_
 rintro ⟨i, ys, oa, oc⟩ ⟨hi, hinv⟩
 show W _ _ _ _ _ _ ([(13, .int .i64 (i : Int)), (5, .slice oa ys.length oc)] ++ _) _ ([rowR 2 1 encI ys oa oc] ++ _)
 refine Wr ?_
 refine Oy rfl (Yl.lss rfl rfl) ?_
 refine OW.nil ?_
 refine W.seq ?_
 refine W.cond rfl (fun hq1 => ?_) (fun hq1 => ?_)
 ·have hq1d := of_decide_eq_true hq1
  obtain ⟨y, hy, hdr⟩ := drop_at (l := l) (i := i) (by omega)
  have hyl : ys.length ≤ 4000 := by rw [hinv]; simp; omega
  refine W.skip ?_
  refine W.seq ?_
  refine W.block ?_
  refine Wr ?_
  refine OW.fact (Sl.isSome (by repeat constructor) (by omega)) ?_
  rintro ⟨p1, hp1⟩; try dsimp only at hp1
  subst hp1
  refine Oy rfl (Yl.indexS i ⟨Tryz.underlying22, Tryz.sizeOf34⟩ rfl rfl rfl (by omega)) ?_
  refine Oy rfl (Yl.loadE ⟨Tryz.isAgg34, Tryz.sizeOf34⟩ rfl (by repeat constructor) (map_at hy)) ?_
  refine OW.alloc (Wn.plain rfl) rfl Tryz.zeroValue34 (by constructor) (fun b1 => ?_)
  refine OW.store (Wn.plain rfl) Tryz.sizeOf34 rfl rfl (by constructor) (by repeat constructor) rfl (by repeat constructor) (by repeat constructor) ?_
  refine OW.nil ?_
  refine W.region ?_
  refine Oy rfl (Yl.move rfl) ?_
  refine Oy rfl (Yl.move rfl) ?_
  refine Oy rfl (Yl.load ⟨Tryz.isAgg34, Tryz.sizeOf34⟩ rfl (by repeat constructor) (by repeat constructor)) ?_
  refine OW.call (Wn.plain rfl) rfl rfl rfl (FnC.triC Tryz.call122 (c_wof1 _)) (by repeat constructor) ?_
  rintro _ _ ⟨rfl, rfl⟩
  refine OW.lit (is := [0]) (xs := [.tmp 20]) (Wn.plain rfl) rfl rw_51 rfl rfl rfl (by decide) (by repeat constructor) (fun b2 => ?_)
  refine OW.push  (Wn.plain rfl) rfl rw_51 rfl rfl (by repeat constructor) ⟨_, by repeat constructor⟩ (by rfl) (by rfl) (by repeat constructor) (by omega) (by omega) (fun a2 c2 => ?_)
  refine Oy rfl (Yl.assign rfl) ?_
  refine OW.nil ?_
  refine W.region ?_
  refine Oy rfl (Yl.add rfl rfl (by omega)) ?_
  refine Oy rfl (Yl.move rfl) ?_
  refine OW.nil ?_
  refine ⟨(i + 1, ys ++ [y.T], _, _), _, ⟨by omega, ?_⟩, (Le.cons rfl (Le.cons rfl (Le.cons rfl (Le.cons rfl (Le.cons rfl (Le.cons rfl (Le.nil _))))))), rfl, by repeat constructor, by repeat constructor, by first | omega | (dsimp only; omega)⟩
  rw [take_at hy, hinv]; simp
 ·have hq1d := of_decide_eq_false hq1
  rw [take_end (by omega)] at hinv
  subst hinv
  refine W.exit ?_
  refine Wr ?_
  refine Oy rfl (Yl.move rfl) ?_
  refine Oy rfl (Yl.assign rfl) ?_
  refine OW.nil ?_
  refine W.ret ?_
  refine Fin.ent (Ent.sealP (f := encI) (E := 2) (sz := 1) (by repeat constructor) (fun _ => rfl)) ?_
  exact Fin.mk (Rsl.one rfl rfl) ⟨_, _, rfl, rfl⟩ (by repeat constructor) (by repeat constructor)
theorem c_wof2 (p : Pt) : FnV Tryz.prog 125 #[.agg (encT p).toArray] [] (.int .i64 p.V) := by
 refine FnC.go (m := 5) Tryz.func125 Tryz.ntmps125 rfl (Nat.le_of_ble_eq_true rfl) (fun Lf => ?_)
 refine Wr ?_
 refine OW.box (Wn.plain rfl) rfl rfl (by constructor) (fun b1 => ?_)
 refine Oy rfl (Yl.assign rfl) ?_
 refine OW.nil ?_
 refine Wr ?_
 refine Oy rfl (Yl.fieldL 1 (fa_34_1) rfl rfl) ?_
 refine Oy rfl (Yl.load1 Tryz.isAgg2 rfl (by repeat constructor) (by repeat constructor)) ?_
 refine Oy rfl (Yl.assign rfl) ?_
 refine OW.nil ?_
 refine W.ret ?_
 refine Fin.mk (Rsl.one rfl rfl) ⟨?_, rfl⟩ (by repeat constructor) (by repeat constructor)
 rfl
theorem c_wallV (l : List Pt) (a : Option Addr) (c : Nat) (hl : l.length ≤ 4000) : FnC Tryz.prog 121 #[.slice a l.length c, .func (.func 125) #[] #[]] [rowI 2 encT l a c] (RetRow 1 encI (l.map Pt.V)) := by
 refine FnC.go (m := 25) Tryz.func121 Tryz.ntmps121 rfl (Nat.le_of_ble_eq_true rfl) (fun Lf => ?_)
 refine Wr ?_
 refine Oy rfl (Yl.assign rfl) ?_
 refine OW.nil ?_
 refine Wr ?_
 refine Oy rfl (Yl.move rfl) ?_
 refine Oy rfl (Yl.len ⟨Tryz.underlying22, Tryz.sizeOf34⟩ rfl) ?_
 refine OW.make0 (l.length) (Wn.plain rfl) rfl rw_51 rfl rfl rfl (by first | omega | (unfold maxLen; omega)) (by first | omega | (unfold maxLen; omega)) (fun a1 c1 => ?_)
 refine Oy rfl (Yl.assign rfl) ?_
 refine OW.nil ?_
 refine W.seq ?_
 refine Wr ?_
 refine Oy rfl (Yl.move rfl) ?_
 refine Oy rfl (Yl.len ⟨Tryz.underlying22, Tryz.sizeOf34⟩ rfl) ?_
 refine Oy rfl (Yl.move rfl) ?_
 refine OW.nil ?_
 refine W.block ?_
 refine W.loopS (X := (Nat) × (List Int) × (Option Addr) × (Nat)) (fun (x : (Nat) × (List Int) × (Option Addr) × (Nat)) => match x with | (i, ys, oa, oc) => (i ≤ l.length ∧ (ys = (l.take i).map Pt.V) : Prop)) (fun (x : (Nat) × (List Int) × (Option Addr) × (Nat)) => match x with | (i, ys, oa, oc) => ([(13, .int .i64 (i : Int)), (5, .slice oa ys.length oc)] : Env)) (fun (x : (Nat) × (List Int) × (Option Addr) × (Nat)) => match x with | (i, ys, oa, oc) => ([rowR 2 1 encI ys oa oc] : List Res)) (fun (x : (Nat) × (List Int) × (Option Addr) × (Nat)) => match x with | (i, ys, oa, oc) => (l.length - i : Nat)) (0, [], _, _) [(1, _), (4, _), (11, _), (12, _)] (by exact ⟨Nat.zero_le _, rfl⟩) (Le.cons rfl (Le.cons rfl (Le.cons rfl (Le.cons rfl (Le.cons rfl (Le.cons rfl (Le.nil _))))))) (by repeat constructor) ?_
 rintro ⟨i, ys, oa, oc⟩ ⟨hi, hinv⟩
 show W _ _ _ _ _ _ ([(13, .int .i64 (i : Int)), (5, .slice oa ys.length oc)] ++ _) _ ([rowR 2 1 encI ys oa oc] ++ _)
 refine Wr ?_
 refine Oy rfl (Yl.lss rfl rfl) ?_
 refine OW.nil ?_
 refine W.seq ?_
 refine W.cond rfl (fun hq1 => ?_) (fun hq1 => ?_)
 ·have hq1d := of_decide_eq_true hq1
  obtain ⟨y, hy, hdr⟩ := drop_at (l := l) (i := i) (by omega)
  have hyl : ys.length ≤ 4000 := by rw [hinv]; simp; omega
  refine W.skip ?_
  refine W.seq ?_
  refine W.block ?_
  refine Wr ?_
  refine OW.fact (Sl.isSome (by repeat constructor) (by omega)) ?_
  rintro ⟨p1, hp1⟩; try dsimp only at hp1
  subst hp1
  refine Oy rfl (Yl.indexS i ⟨Tryz.underlying22, Tryz.sizeOf34⟩ rfl rfl rfl (by omega)) ?_
  refine Oy rfl (Yl.loadE ⟨Tryz.isAgg34, Tryz.sizeOf34⟩ rfl (by repeat constructor) (map_at hy)) ?_
  refine OW.alloc (Wn.plain rfl) rfl Tryz.zeroValue34 (by constructor) (fun b1 => ?_)
  refine OW.store (Wn.plain rfl) Tryz.sizeOf34 rfl rfl (by constructor) (by repeat constructor) rfl (by repeat constructor) (by repeat constructor) ?_
  refine OW.nil ?_
  refine W.region ?_
  refine Oy rfl (Yl.move rfl) ?_
  refine Oy rfl (Yl.move rfl) ?_
  refine Oy rfl (Yl.load ⟨Tryz.isAgg34, Tryz.sizeOf34⟩ rfl (by repeat constructor) (by repeat constructor)) ?_
  refine OW.call (Wn.plain rfl) rfl rfl rfl (FnC.triC Tryz.call125 (c_wof2 _)) (by repeat constructor) ?_
  rintro _ _ ⟨rfl, rfl⟩
  refine OW.lit (is := [0]) (xs := [.tmp 20]) (Wn.plain rfl) rfl rw_51 rfl rfl rfl (by decide) (by repeat constructor) (fun b2 => ?_)
  refine OW.push  (Wn.plain rfl) rfl rw_51 rfl rfl (by repeat constructor) ⟨_, by repeat constructor⟩ (by rfl) (by rfl) (by repeat constructor) (by omega) (by omega) (fun a2 c2 => ?_)
  refine Oy rfl (Yl.assign rfl) ?_
  refine OW.nil ?_
  refine W.region ?_
  refine Oy rfl (Yl.add rfl rfl (by omega)) ?_
  refine Oy rfl (Yl.move rfl) ?_
  refine OW.nil ?_
  refine ⟨(i + 1, ys ++ [y.V], _, _), _, ⟨by omega, ?_⟩, (Le.cons rfl (Le.cons rfl (Le.cons rfl (Le.cons rfl (Le.cons rfl (Le.cons rfl (Le.nil _))))))), rfl, by repeat constructor, by repeat constructor, by first | omega | (dsimp only; omega)⟩
  rw [take_at hy, hinv]; simp
 ·have hq1d := of_decide_eq_false hq1
  rw [take_end (by omega)] at hinv
  subst hinv
  refine W.exit ?_
  refine Wr ?_
  refine Oy rfl (Yl.move rfl) ?_
  refine Oy rfl (Yl.assign rfl) ?_
  refine OW.nil ?_
  refine W.ret ?_
  refine Fin.ent (Ent.sealP (f := encI) (E := 2) (sz := 1) (by repeat constructor) (fun _ => rfl)) ?_
  exact Fin.mk (Rsl.one rfl rfl) ⟨_, _, rfl, rfl⟩ (by repeat constructor) (by repeat constructor)
theorem c_wbands1 (p : Pt) (eps : Int) (be : Nat) (hp : -2305843009213693952 ≤ p.V ∧ p.V ≤ 2305843009213693952) (he : 0 ≤ eps ∧ eps ≤ 1099511627776) : FnC Tryz.prog 89 #[.agg (encT p).toArray, .pointer (some ⟨be, 0, none⟩)] [.cell be [.int .i64 eps] 2] (fun v L' => v = .agg (encB (bandP eps p)).toArray ∧ L' = [.cell be [.int .i64 eps] 2]) := by
 refine FnC.go (m := 15) Tryz.func89 Tryz.ntmps89 rfl (Nat.le_of_ble_eq_true rfl) (fun Lf => ?_)
 refine Wr ?_
 refine OW.box (Wn.plain rfl) rfl rfl (by constructor) (fun b1 => ?_)
 refine OW.alloc (Wn.plain rfl) rfl Tryz.zeroValue42 (by constructor) (fun b2 => ?_)
 refine OW.nil ?_
 refine Wr ?_
 refine Oy rfl (Yl.fieldL 0 (fa_34_0) rfl rfl) ?_
 refine Oy rfl (Yl.load1 Tryz.isAgg2 rfl (by repeat constructor) (by repeat constructor)) ?_
 refine Oy rfl (Yl.fieldL 1 (fa_34_1) rfl rfl) ?_
 refine Oy rfl (Yl.load1 Tryz.isAgg2 rfl (by repeat constructor) (by repeat constructor)) ?_
 refine Oy rfl (Yl.load1 Tryz.isAgg2 rfl (by repeat constructor) (by repeat constructor)) ?_
 refine Oy rfl (Yl.sub rfl rfl (by omega)) ?_
 refine Oy rfl (Yl.fieldL 1 (fa_34_1) rfl rfl) ?_
 refine Oy rfl (Yl.load1 Tryz.isAgg2 rfl (by repeat constructor) (by repeat constructor)) ?_
 refine Oy rfl (Yl.load1 Tryz.isAgg2 rfl (by repeat constructor) (by repeat constructor)) ?_
 refine Oy rfl (Yl.add rfl rfl (by omega)) ?_
 refine Oy rfl (Yl.build (is := [0, 1, 2]) (xs := [.tmp 5, .tmp 9, .tmp 13]) st_42 rfl rfl (by repeat constructor)) ?_
 refine OW.store (Wn.plain rfl) Tryz.sizeOf42 rfl rfl (by constructor) (by repeat constructor) rfl (by repeat constructor) (by repeat constructor) ?_
 refine OW.nil ?_
 refine W.ret ?_
 exact Fin.mk (Rsl.of1 rfl (.cell ⟨Tryz.isAgg42, Tryz.sizeOf42⟩ rfl (by repeat constructor) (by repeat constructor))) ⟨rfl, rfl⟩ (by repeat constructor) (by repeat constructor)
theorem c_wallB (l : List Pt) (a : Option Addr) (c : Nat) (eps : Int) (be : Nat) (hl : l.length ≤ 4000) (hok : PtsOk l) (he : 0 ≤ eps ∧ eps ≤ 1099511627776) : FnC Tryz.prog 88 #[.slice a l.length c, .func (.func 89) #[] #[.pointer (some ⟨be, 0, none⟩)]] [.cell be [.int .i64 eps] 2, rowI 2 encT l a c] (RetRow 3 encB (l.map (bandP eps))) := by
 refine FnC.go (m := 25) Tryz.func88 Tryz.ntmps88 rfl (Nat.le_of_ble_eq_true rfl) (fun Lf => ?_)
 refine Wr ?_
 refine Oy rfl (Yl.assign rfl) ?_
 refine OW.nil ?_
 refine Wr ?_
 refine Oy rfl (Yl.move rfl) ?_
 refine Oy rfl (Yl.len ⟨Tryz.underlying22, Tryz.sizeOf34⟩ rfl) ?_
 refine OW.make0 (l.length) (Wn.plain rfl) rfl rw_38 rfl rfl rfl (by first | omega | (unfold maxLen; omega)) (by first | omega | (unfold maxLen; omega)) (fun a1 c1 => ?_)
 refine Oy rfl (Yl.assign rfl) ?_
 refine OW.nil ?_
 refine W.seq ?_
 refine Wr ?_
 refine Oy rfl (Yl.move rfl) ?_
 refine Oy rfl (Yl.len ⟨Tryz.underlying22, Tryz.sizeOf34⟩ rfl) ?_
 refine Oy rfl (Yl.move rfl) ?_
 refine OW.nil ?_
 refine W.block ?_
 refine W.loopS (X := (Nat) × (List Bnd) × (Option Addr) × (Nat)) (fun (x : (Nat) × (List Bnd) × (Option Addr) × (Nat)) => match x with | (i, ys, oa, oc) => (i ≤ l.length ∧ (ys = (l.take i).map (bandP eps)) : Prop)) (fun (x : (Nat) × (List Bnd) × (Option Addr) × (Nat)) => match x with | (i, ys, oa, oc) => ([(13, .int .i64 (i : Int)), (5, .slice oa ys.length oc)] : Env)) (fun (x : (Nat) × (List Bnd) × (Option Addr) × (Nat)) => match x with | (i, ys, oa, oc) => ([rowR 42 3 encB ys oa oc, .cell be [.int .i64 eps] 2] : List Res)) (fun (x : (Nat) × (List Bnd) × (Option Addr) × (Nat)) => match x with | (i, ys, oa, oc) => (l.length - i : Nat)) (0, [], _, _) [(1, _), (4, _), (11, _), (12, _)] (by exact ⟨Nat.zero_le _, rfl⟩) (Le.cons rfl (Le.cons rfl (Le.cons rfl (Le.cons rfl (Le.cons rfl (Le.cons rfl (Le.nil _))))))) (by repeat constructor) ?_
 rintro ⟨i, ys, oa, oc⟩ ⟨hi, hinv⟩
 show W _ _ _ _ _ _ ([(13, .int .i64 (i : Int)), (5, .slice oa ys.length oc)] ++ _) _ ([rowR 42 3 encB ys oa oc, .cell be [.int .i64 eps] 2] ++ _)
 refine Wr ?_
 refine Oy rfl (Yl.lss rfl rfl) ?_
 refine OW.nil ?_
 refine W.seq ?_
 refine W.cond rfl (fun hq1 => ?_) (fun hq1 => ?_)
 ·have hq1d := of_decide_eq_true hq1
  obtain ⟨y, hy, hdr⟩ := drop_at (l := l) (i := i) (by omega)
  have hyl : ys.length ≤ 4000 := by rw [hinv]; simp; omega
  have hyo := hok y (List.mem_of_getElem? hy)
  refine W.skip ?_
  refine W.seq ?_
  refine W.block ?_
  refine Wr ?_
  refine OW.fact (Sl.isSome (by repeat constructor) (by omega)) ?_
  rintro ⟨p1, hp1⟩; try dsimp only at hp1
  subst hp1
  refine Oy rfl (Yl.indexS i ⟨Tryz.underlying22, Tryz.sizeOf34⟩ rfl rfl rfl (by omega)) ?_
  refine Oy rfl (Yl.loadE ⟨Tryz.isAgg34, Tryz.sizeOf34⟩ rfl (by repeat constructor) (map_at hy)) ?_
  refine OW.alloc (Wn.plain rfl) rfl Tryz.zeroValue34 (by constructor) (fun b1 => ?_)
  refine OW.store (Wn.plain rfl) Tryz.sizeOf34 rfl rfl (by constructor) (by repeat constructor) rfl (by repeat constructor) (by repeat constructor) ?_
  refine OW.nil ?_
  refine W.region ?_
  refine Oy rfl (Yl.move rfl) ?_
  refine Oy rfl (Yl.move rfl) ?_
  refine Oy rfl (Yl.load ⟨Tryz.isAgg34, Tryz.sizeOf34⟩ rfl (by repeat constructor) (by repeat constructor)) ?_
  refine OW.call (Wn.plain rfl) rfl rfl rfl (FnC.triC Tryz.call89 (c_wbands1 y eps be (by omega) he)) (by repeat constructor) ?_
  rintro _ _ ⟨rfl, rfl⟩
  refine OW.lit (is := [0]) (xs := [.tmp 20]) (Wn.plain rfl) rfl rw_38 rfl rfl rfl (by decide) (by repeat constructor) (fun b2 => ?_)
  refine OW.push (f := encB) (y := bandP eps y) (Wn.plain rfl) rfl rw_38 rfl rfl (by repeat constructor) ⟨_, by repeat constructor⟩ (by rfl) (by rfl) (by repeat constructor) (by omega) (by omega) (fun a2 c2 => ?_)
  refine Oy rfl (Yl.assign rfl) ?_
  refine OW.nil ?_
  refine W.region ?_
  refine Oy rfl (Yl.add rfl rfl (by omega)) ?_
  refine Oy rfl (Yl.move rfl) ?_
  refine OW.nil ?_
  refine ⟨(i + 1, ys ++ [bandP eps y], _, _), _, ⟨by omega, ?_⟩, (Le.cons rfl (Le.cons rfl (Le.cons rfl (Le.cons rfl (Le.cons rfl (Le.cons rfl (Le.nil _))))))), rfl, by repeat constructor, by repeat constructor, by first | omega | (dsimp only; omega)⟩
  rw [take_at hy, hinv]; simp
 ·have hq1d := of_decide_eq_false hq1
  rw [take_end (by omega)] at hinv
  subst hinv
  refine W.exit ?_
  refine Wr ?_
  refine Oy rfl (Yl.move rfl) ?_
  refine Oy rfl (Yl.assign rfl) ?_
  refine OW.nil ?_
  refine W.ret ?_
  refine Fin.ent (Ent.sealP (f := encB) (E := 42) (sz := 3) (by repeat constructor) (fun _ => rfl)) ?_
  exact Fin.mk (Rsl.one rfl rfl) ⟨_, _, rfl, rfl⟩ (by repeat constructor) (by repeat constructor)
theorem c_wbands (l : List Pt) (a : Option Addr) (c : Nat) (eps : Int) (hl : l.length ≤ 4000) (hok : PtsOk l) (he : 0 ≤ eps ∧ eps ≤ 1099511627776) : FnC Tryz.prog 45 #[.slice a l.length c, .int .i64 eps] [rowI 2 encT l a c] (RetRow 3 encB (l.map (bandP eps))) := by
 refine FnC.go (m := 8) Tryz.func45 Tryz.ntmps45 rfl (Nat.le_of_ble_eq_true rfl) (fun Lf => ?_)
 refine Wr ?_
 refine OW.box (Wn.plain rfl) rfl rfl (by constructor) (fun b1 => ?_)
 refine Oy rfl (Yl.assign rfl) ?_
 refine OW.nil ?_
 refine Wr ?_
 refine Oy rfl (Yl.move rfl) ?_
 refine Oy rfl (Yl.makeFunc rfl rfl) ?_
 refine OW.call (Wn.plain rfl) rfl rfl rfl (FnC.tri0 Tryz.call88 (c_wallB l a c eps _ hl hok he)) (by repeat constructor) ?_
 rintro _ _ ⟨ra, rc, rfl, rfl⟩
 refine Oy rfl (Yl.assign rfl) ?_
 refine OW.nil ?_
 refine W.ret ?_
 exact Fin.mk (Rsl.one rfl rfl) ⟨_, _, rfl, rfl⟩ (by repeat constructor) (by repeat constructor)
end Go.Yb
