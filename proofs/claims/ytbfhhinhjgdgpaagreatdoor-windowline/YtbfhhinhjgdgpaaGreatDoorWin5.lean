/-
  A part of the proof of windowLine_holds: see the text that holds it. No conditions of its own.
-/
import Derived.Test.YtbfhhinhjgdgpaaGreatDoorWin4
import Derived.Test.YtbfhhinhjgdgpaaGreatDoorCode
namespace Go.Yb
open Go Go.Proofs Go.RowKit

def szS (s : Sg) : Int := ((encSg s).length : Int)
def seE (s : Sg) : Int := if segM s then 0 else 210
theorem encSg_len (s : Sg) : (encSg s).length ≤ 20000 := by
 unfold encSg
 split
 ·rename_i h
  have hl1 := vbU_len s.Err
  have hl2 := vbU_len (s.Runs.length : Int)
  have hl3 := encRuns_len s.Runs 0
  have hl4 := encLine_len s.Kind s.Line
  obtain ⟨hl5, hl6⟩ := segM_lens h
  have hl7 := encRaw_len s.Raw 0
  unfold encM
  simp; omega
 ·simp
def wsF : List Sg → Int → Option Int
  | [], n => some n
  | s :: ss, n => if segM s then wsF ss (n + szS s) else none
def wsV (ss : List Sg) : Int := (wsF ss 0).getD 0
def wsE (ss : List Sg) : Int := if (wsF ss 0).isSome then 0 else 210
theorem wsF_n {s : Sg} {ss : List Sg} {n : Int} (h : segM s = false) : wsF (s :: ss) n = none := by simp [wsF, h]
theorem wsF_y {s : Sg} {ss : List Sg} {n : Int} (h : segM s = true) : wsF (s :: ss) n = wsF ss (n + szS s) := by simp [wsF, h]
theorem ws_y {ss : List Sg} {n : Int} (h : wsF ss 0 = some n) : wsV ss = n ∧ wsE ss = 0 := by simp [wsV, wsE, h]
theorem ws_n {ss : List Sg} (h : wsF ss 0 = none) : wsV ss = 0 ∧ wsE ss = 210 := by simp [wsV, wsE, h]
theorem map_drop {α β : Type} (g : α → β) {l : List α} {i : Nat} {y : α} (h : l.drop i = y :: l.drop (i + 1)) : (l.map g).drop i = g y :: (l.map g).drop (i + 1) := by rw [← List.map_drop, h, List.map_cons, List.map_drop]
theorem c_cSize (s : Sg) (xa : SgA) : FnC Tryz.prog 108 #[.agg (encG s xa).toArray] [rowI 3 encR s.Runs xa.ra xa.rc, rowI 1 encI s.Raw xa.wa xa.wc] (fun v L' => v = .tuple [.int .i64 (szS s), .int .i64 (seE s)].toArray ∧ L' = []) := by
 refine FnC.go (m := 14) Tryz.func108 Tryz.ntmps108 rfl (Nat.le_of_ble_eq_true rfl) (fun Lf => ?_)
 refine Wr ?_
 refine OW.box (Wn.plain rfl) rfl rfl (by constructor) (fun b1 => ?_)
 refine Oy rfl (Yl.assign rfl) ?_
 refine Oy rfl (Yl.assign rfl) ?_
 refine OW.nil ?_
 refine Wr ?_
 refine Oy rfl (Yl.load ⟨Tryz.isAgg53, Tryz.sizeOf53⟩ rfl (by repeat constructor) (by repeat constructor)) ?_
 refine OW.call (Wn.plain rfl) rfl rfl rfl (FnC.tri0 Tryz.call168 (c_Encode s xa)) (by repeat constructor) ?_
 rintro _ _ ⟨ea, ec, rfl, rfl⟩
 refine Oy rfl (Yl.move rfl) ?_
 refine Oy rfl (Yl.extract rfl (by repeat constructor)) ?_
 refine Oy rfl (Yl.extract rfl (by repeat constructor)) ?_
 refine Oy rfl (Yl.assign rfl) ?_
 refine Oy rfl (Yl.assign rfl) ?_
 refine OW.nil ?_
 refine Wr ?_
 refine Oy rfl (Yl.move rfl) ?_
 refine Oy rfl (Yl.len ⟨Tryz.underlying236, Tryz.sizeOf5⟩ rfl) ?_
 refine Oy rfl (Yl.move rfl) ?_
 refine Oy rfl (Yl.assign rfl) ?_
 refine Oy rfl (Yl.assign rfl) ?_
 refine OW.nil ?_
 refine W.ret ?_
 refine Fin.mk (Rsl.two rfl rfl rfl) ⟨?_, rfl⟩ (by repeat constructor) (by repeat constructor)
 rfl
theorem c_wSize (ys : List SgV) (a : Option Addr) (c : Nat) (hl : ys.length ≤ 4000) : FnC Tryz.prog 65 #[.slice a ys.length c] [rowI 8 encV ys a c, .imm (segsI ys)] (fun v L' => v = .tuple [.int .i64 (wsV (ys.map Prod.fst)), .int .i64 (wsE (ys.map Prod.fst))].toArray ∧ L' = []) := by
 refine FnC.go (m := 27) Tryz.func65 Tryz.ntmps65 rfl (Nat.le_of_ble_eq_true rfl) (fun Lf => ?_)
 refine Wr ?_
 refine Oy rfl (Yl.assign rfl) ?_
 refine Oy rfl (Yl.assign rfl) ?_
 refine OW.nil ?_
 refine Wr ?_
 refine Oy rfl (Yl.assign rfl) ?_
 refine OW.nil ?_
 refine W.seq ?_
 refine Wr ?_
 refine Oy rfl (Yl.move rfl) ?_
 refine Oy rfl (Yl.len ⟨Tryz.underlying25, Tryz.sizeOf53⟩ rfl) ?_
 refine Oy rfl (Yl.move rfl) ?_
 refine OW.nil ?_
 refine W.block ?_
 refine W.loopS (X := (Nat) × (Int)) (fun (x : (Nat) × (Int)) => match x with | (i, m) => (i ≤ ys.length ∧ (wsF (ys.map Prod.fst) 0 = wsF ((ys.map Prod.fst).drop i) m ∧ 0 ≤ m ∧ m ≤ 20000 * (i : Int)) : Prop)) (fun (x : (Nat) × (Int)) => match x with | (i, m) => ([(11, .int .i64 (i : Int)), (4, .int .i64 m)] : Env)) (fun (x : (Nat) × (Int)) => match x with | (i, m) => ([] : List Res)) (fun (x : (Nat) × (Int)) => match x with | (i, m) => (ys.length - i : Nat)) (0, 0) [(9, _), (10, _)] (by exact ⟨Nat.zero_le _, rfl, by decide, by simp⟩) (Le.cons rfl (Le.cons rfl (Le.cons rfl (Le.cons rfl (Le.nil _))))) (by repeat constructor) ?_
 rintro ⟨i, m⟩ ⟨hi, hinv⟩
 show W _ _ _ _ _ _ ([(11, .int .i64 (i : Int)), (4, .int .i64 m)] ++ _) _ ([] ++ _)
 obtain ⟨i1, i2⟩ := hinv
 refine Wr ?_
 refine Oy rfl (Yl.lss rfl rfl) ?_
 refine OW.nil ?_
 refine W.seq ?_
 refine W.cond rfl (fun hq1 => ?_) (fun hq1 => ?_)
 ·have hq1d := of_decide_eq_true hq1
  obtain ⟨y, hy, hdr⟩ := drop_at (l := ys) (i := i) (by omega)
  rw [map_drop Prod.fst hdr] at i1
  have hsl := encSg_len y.1
  have hse : szS y.1 = ((encSg y.1).length : Int) := rfl
  refine W.ent (Ent.segs_at (ys := ys) (y := y) (by repeat constructor) (List.mem_of_getElem? hy)) ?_
  refine W.skip ?_
  refine W.seq ?_
  refine W.block ?_
  refine Wr ?_
  refine OW.fact (Sl.isSome (a := a) (by repeat constructor) (by omega)) ?_
  rintro ⟨p1, hp1⟩; try dsimp only at hp1
  subst hp1
  refine Oy rfl (Yl.indexS i ⟨Tryz.underlying25, Tryz.sizeOf53⟩ rfl rfl rfl (by omega)) ?_
  refine Oy rfl (Yl.loadE ⟨Tryz.isAgg53, Tryz.sizeOf53⟩ rfl (by repeat constructor) (map_at hy)) ?_
  refine OW.alloc (Wn.plain rfl) rfl Tryz.zeroValue53 (by constructor) (fun b1 => ?_)
  refine OW.store (Wn.plain rfl) Tryz.sizeOf53 rfl rfl (by constructor) (by repeat constructor) rfl (by repeat constructor) (by repeat constructor) ?_
  refine OW.nil ?_
  refine Wr ?_
  refine Oy rfl (Yl.load ⟨Tryz.isAgg53, Tryz.sizeOf53⟩ rfl (by repeat constructor) (by repeat constructor)) ?_
  refine OW.call (Wn.plain rfl) rfl rfl rfl (FnC.tri0 Tryz.call108 (c_cSize y.1 y.2)) (by repeat constructor) ?_
  rintro _ _ ⟨rfl, rfl⟩
  refine Oy rfl (Yl.move rfl) ?_
  refine Oy rfl (Yl.extract rfl (by repeat constructor)) ?_
  refine Oy rfl (Yl.extract rfl (by repeat constructor)) ?_
  refine Oy rfl (Yl.assign rfl) ?_
  refine Oy rfl (Yl.assign rfl) ?_
  refine OW.nil ?_
  refine W.seq ?_
  refine Wr ?_
  refine Oy rfl (Yl.move rfl) ?_
  refine Oy rfl (Yl.neq rfl rfl) ?_
  refine OW.nil ?_
  refine W.cond rfl (fun hq2 => ?_) (fun hq2 => ?_)
  ·have hq2d := of_decide_eq_true hq2
   have hsn : segM y.1 = false := by (cases hs : segM y.1; rfl; simp [seE, hs] at hq2d)
   rw [wsF_n hsn] at i1
   obtain ⟨e1, e2⟩ := ws_n i1
   refine Wr ?_
   refine Oy rfl (Yl.assign rfl) ?_
   refine Oy rfl (Yl.assign rfl) ?_
   refine OW.nil ?_
   refine W.ret ?_
   refine Fin.mk (Rsl.two rfl rfl rfl) ⟨?_, rfl⟩ (by repeat constructor) (by repeat constructor)
   first | (rw [e1, e2]; done) | (rw [e1, e2]; rfl)
  ·have hq2d := of_decide_eq_false hq2
   have hsy : segM y.1 = true := by (cases hs : segM y.1; simp [seE, hs] at hq2d; rfl)
   refine W.skip ?_
   refine W.region ?_
   refine Oy rfl (Yl.move rfl) ?_
   refine Oy rfl (Yl.move rfl) ?_
   refine Oy rfl (Yl.add rfl rfl (by omega)) ?_
   refine Oy rfl (Yl.assign rfl) ?_
   refine OW.nil ?_
   refine W.region ?_
   refine Oy rfl (Yl.add rfl rfl (by omega)) ?_
   refine Oy rfl (Yl.move rfl) ?_
   refine OW.nil ?_
   refine ⟨(i + 1, m + szS y.1), _, ⟨by omega, ?_⟩, (Le.cons rfl (Le.cons rfl (Le.cons rfl (Le.cons rfl (Le.nil _))))), rfl, by repeat constructor, by repeat constructor, by first | omega | (dsimp only; omega)⟩
   exact ⟨by rw [i1, wsF_y hsy], by omega, by omega⟩
 ·have hq1d := of_decide_eq_false hq1
  rw [List.drop_eq_nil_of_le (by simp; omega)] at i1
  obtain ⟨e1, e2⟩ := ws_y i1
  refine W.exit ?_
  refine Wr ?_
  refine Oy rfl (Yl.move rfl) ?_
  refine Oy rfl (Yl.assign rfl) ?_
  refine Oy rfl (Yl.assign rfl) ?_
  refine OW.nil ?_
  refine W.ret ?_
  refine Fin.mk (Rsl.two rfl rfl rfl) ⟨?_, rfl⟩ (by repeat constructor) (by repeat constructor)
  first | (rw [e1, e2]; done) | (rw [e1, e2]; rfl)

def pick2 (a b : Nat × List Sg) : Nat × List Sg := if wsV b.2 < wsV a.2 then b else a
def bM1 (l : List Pt) (eps : Int) : Nat × List Sg := (1, madeW1 l eps)
def bM2 (l : List Pt) (eps : Int) : Nat × List Sg := pick2 (bM1 l eps) (2, madeW2 l eps)
def bM3 (l : List Pt) (eps : Int) : Nat × List Sg := pick2 (bM2 l eps) (3, madeW3 l eps)
def bestM (l : List Pt) (eps : Int) : Nat × List Sg := pick2 (bM3 l eps) (4, madeW4 l eps)
theorem pick2_y {a b : Nat × List Sg} (h : wsV b.2 < wsV a.2) : pick2 a b = b := if_pos h
theorem pick2_n {a b : Nat × List Sg} (h : ¬ wsV b.2 < wsV a.2) : pick2 a b = a := if_neg h
theorem made_len {ys : List SgV} {l : List Pt} {cs : List Nat} {g : List Pt → Sg} (h : ys.map Prod.fst = (partsM l cs).map g) (hc : CutOk cs l.length) : ys.length ≤ l.length := by
 have h1 := congrArg List.length h
 simp only [List.length_map, partsM_len] at h1
 have := cutOk_len hc
 omega

theorem c_wbest (l : List Pt) (a : Option Addr) (c : Nat) (eps : Int) (hp : pointsM l = true) (he : 0 ≤ eps ∧ eps ≤ 1099511627776) : FnC Tryz.prog 73 #[.slice a l.length c, .int .i64 eps] [rowI 2 encT l a c, glob0] (fun v L' => ∃ (ys : List SgV) (a : Option Addr) (c : Nat), ys.map Prod.fst = (bestM l eps).2 ∧ v = .tuple [.int .i64 ((bestM l eps).1 : Int), .slice a ys.length c].toArray ∧ L' = [rowI 8 encV ys a c, .imm (segsI ys)]) := by
 refine FnC.go (m := 38) Tryz.func73 Tryz.ntmps73 rfl (Nat.le_of_ble_eq_true rfl) (fun Lf => ?_)
 have hl := pts_len hp
 have hB1 : bM1 l eps = (1, madeW1 l eps) := rfl
 refine Wr ?_
 refine Oy rfl (Yl.assign rfl) ?_
 refine Oy rfl (Yl.assign rfl) ?_
 refine OW.nil ?_
 refine Wr ?_
 refine Oy rfl (Yl.assign rfl) ?_
 refine Oy rfl (Yl.assign rfl) ?_
 refine OW.nil ?_
 refine Wr ?_
 refine Oy rfl (Yl.assign rfl) ?_
 refine OW.nil ?_
 refine W.seq ?_
 refine Wr ?_
 refine Oy rfl (Yl.assign rfl) ?_
 refine OW.nil ?_
 refine W.block ?_
 refine W.loopL ?_
 refine WL.round ?_
 refine W.seq ?_
 refine Wr ?_
 refine Oy rfl (Yl.move rfl) ?_
 refine Oy rfl (Yl.leq rfl rfl) ?_
 refine OW.nil ?_
 refine W.cond_t1 rfl (by decide) ?_
 refine W.skip ?_
 refine W.seq ?_
 refine W.block ?_
 refine Wr ?_
 refine Oy rfl (Yl.move rfl) ?_
 refine Oy rfl (Yl.move rfl) ?_
 refine Oy rfl (Yl.move rfl) ?_
 refine OW.call (Wn.plain rfl) rfl rfl rfl (FnC.tri0 Tryz.call38 (c_made1 l a c eps hp he)) (by repeat constructor) ?_
 rintro _ _ ⟨ys1, ya1, yc1, h1m, rfl, rfl⟩
 have hm1 := made_len h1m (cutW1_ok l eps)
 refine Oy rfl (Yl.assign rfl) ?_
 refine OW.nil ?_
 refine Wr ?_
 refine Oy rfl (Yl.move rfl) ?_
 refine OW.call (Wn.plain rfl) rfl rfl rfl (FnC.tri0 Tryz.call65 (((c_wSize ys1 ya1 yc1 (by omega)).mono (R' := fun v L' => v = .tuple [.int .i64 (wsV (madeW1 l eps)), .int .i64 (wsE (madeW1 l eps))].toArray ∧ L' = []) (fun v L' h => by rw [h1m] at h; exact h)))) (by repeat constructor) ?_
 rintro _ _ ⟨rfl, rfl⟩
 refine Oy rfl (Yl.move rfl) ?_
 refine Oy rfl (Yl.extract rfl (by repeat constructor)) ?_
 refine Oy rfl (Yl.extract rfl (by repeat constructor)) ?_
 refine Oy rfl (Yl.assign rfl) ?_
 refine Oy rfl (Yl.assign rfl) ?_
 refine OW.nil ?_
 refine Wr ?_
 refine Oy rfl (Yl.move rfl) ?_
 refine Oy rfl (Yl.eql rfl rfl) ?_
 refine Oy rfl (Yl.move rfl) ?_
 refine OW.not (Wn.not rfl rfl rfl (by decide)) rfl ?_
 refine OW.not (Wn.not rfl rfl rfl (by decide)) rfl ?_
 refine OW.not (Wn.not rfl rfl rfl (by decide)) rfl ?_
 refine Oy rfl (Yl.pick_true rfl (by decide) rfl) ?_
 refine OW.nil ?_
 refine W.cond_true rfl ?_
 refine W.region ?_
 refine Oy rfl (Yl.move rfl) ?_
 refine Oy rfl (Yl.move rfl) ?_
 refine Oy rfl (Yl.move rfl) ?_
 refine Oy rfl (Yl.assign rfl) ?_
 refine Oy rfl (Yl.assign rfl) ?_
 refine Oy rfl (Yl.assign rfl) ?_
 refine OW.nil ?_
 refine W.region ?_
 refine Oy rfl (Yl.move rfl) ?_
 refine Oy rfl (Yl.addW (c := 2) rfl rfl rfl) ?_
 refine Oy rfl (Yl.assign rfl) ?_
 refine OW.nil ?_
 refine WL.round ?_
 refine W.seq ?_
 refine Wr ?_
 refine Oy rfl (Yl.move rfl) ?_
 refine Oy rfl (Yl.leq rfl rfl) ?_
 refine OW.nil ?_
 refine W.cond_t1 rfl (by decide) ?_
 refine W.skip ?_
 refine W.seq ?_
 refine W.block ?_
 refine Wr ?_
 refine Oy rfl (Yl.move rfl) ?_
 refine Oy rfl (Yl.move rfl) ?_
 refine Oy rfl (Yl.move rfl) ?_
 refine OW.call (Wn.plain rfl) rfl rfl rfl (FnC.tri0 Tryz.call38 (c_made2 l a c eps hp he)) (by repeat constructor) ?_
 rintro _ _ ⟨ys2, ya2, yc2, h2m, rfl, rfl⟩
 have hm2 := made_len h2m (cutW2_ok l eps)
 refine Oy rfl (Yl.assign rfl) ?_
 refine OW.nil ?_
 refine Wr ?_
 refine Oy rfl (Yl.move rfl) ?_
 refine OW.call (Wn.plain rfl) rfl rfl rfl (FnC.tri0 Tryz.call65 (((c_wSize ys2 ya2 yc2 (by omega)).mono (R' := fun v L' => v = .tuple [.int .i64 (wsV (madeW2 l eps)), .int .i64 (wsE (madeW2 l eps))].toArray ∧ L' = []) (fun v L' h => by rw [h2m] at h; exact h)))) (by repeat constructor) ?_
 rintro _ _ ⟨rfl, rfl⟩
 refine Oy rfl (Yl.move rfl) ?_
 refine Oy rfl (Yl.extract rfl (by repeat constructor)) ?_
 refine Oy rfl (Yl.extract rfl (by repeat constructor)) ?_
 refine Oy rfl (Yl.assign rfl) ?_
 refine Oy rfl (Yl.assign rfl) ?_
 refine OW.nil ?_
 refine Wr ?_
 refine Oy rfl (Yl.move rfl) ?_
 refine Oy rfl (Yl.eql rfl rfl) ?_
 refine Oy rfl (Yl.move rfl) ?_
 refine OW.yl (Wn.run rfl rfl rfl (by decide)) rfl (Yl.move rfl) ?_
 refine OW.yl (Wn.run rfl rfl rfl (by decide)) rfl (Yl.move rfl) ?_
 refine OW.yl (Wn.run rfl rfl rfl (by decide)) rfl (Yl.lss rfl rfl) ?_
 refine Oy rfl (Yl.pick_false rfl (by decide) rfl) ?_
 refine OW.nil ?_
 refine W.cond rfl (fun hq1 => ?_) (fun hq1 => ?_)
 ·have hq1d := of_decide_eq_true hq1
  have hB2 : bM2 l eps = (2, madeW2 l eps) := by unfold bM2; rw [hB1]; exact pick2_y (by dsimp only; omega)
  refine W.region ?_
  refine Oy rfl (Yl.move rfl) ?_
  refine Oy rfl (Yl.move rfl) ?_
  refine Oy rfl (Yl.move rfl) ?_
  refine Oy rfl (Yl.assign rfl) ?_
  refine Oy rfl (Yl.assign rfl) ?_
  refine Oy rfl (Yl.assign rfl) ?_
  refine OW.nil ?_
  refine W.region ?_
  refine Oy rfl (Yl.move rfl) ?_
  refine Oy rfl (Yl.addW (c := 3) rfl rfl rfl) ?_
  refine Oy rfl (Yl.assign rfl) ?_
  refine OW.nil ?_
  refine WL.round ?_
  refine W.seq ?_
  refine Wr ?_
  refine Oy rfl (Yl.move rfl) ?_
  refine Oy rfl (Yl.leq rfl rfl) ?_
  refine OW.nil ?_
  refine W.cond_t1 rfl (by decide) ?_
  refine W.skip ?_
  refine W.seq ?_
  refine W.block ?_
  refine Wr ?_
  refine Oy rfl (Yl.move rfl) ?_
  refine Oy rfl (Yl.move rfl) ?_
  refine Oy rfl (Yl.move rfl) ?_
  refine OW.call (Wn.plain rfl) rfl rfl rfl (FnC.tri0 Tryz.call38 (c_made3 l a c eps hp he)) (by repeat constructor) ?_
  rintro _ _ ⟨ys3, ya3, yc3, h3m, rfl, rfl⟩
  have hm3 := made_len h3m (cutW3_ok l eps)
  refine Oy rfl (Yl.assign rfl) ?_
  refine OW.nil ?_
  refine Wr ?_
  refine Oy rfl (Yl.move rfl) ?_
  refine OW.call (Wn.plain rfl) rfl rfl rfl (FnC.tri0 Tryz.call65 (((c_wSize ys3 ya3 yc3 (by omega)).mono (R' := fun v L' => v = .tuple [.int .i64 (wsV (madeW3 l eps)), .int .i64 (wsE (madeW3 l eps))].toArray ∧ L' = []) (fun v L' h => by rw [h3m] at h; exact h)))) (by repeat constructor) ?_
  rintro _ _ ⟨rfl, rfl⟩
  refine Oy rfl (Yl.move rfl) ?_
  refine Oy rfl (Yl.extract rfl (by repeat constructor)) ?_
  refine Oy rfl (Yl.extract rfl (by repeat constructor)) ?_
  refine Oy rfl (Yl.assign rfl) ?_
  refine Oy rfl (Yl.assign rfl) ?_
  refine OW.nil ?_
  refine Wr ?_
  refine Oy rfl (Yl.move rfl) ?_
  refine Oy rfl (Yl.eql rfl rfl) ?_
  refine Oy rfl (Yl.move rfl) ?_
  refine OW.yl (Wn.run rfl rfl rfl (by decide)) rfl (Yl.move rfl) ?_
  refine OW.yl (Wn.run rfl rfl rfl (by decide)) rfl (Yl.move rfl) ?_
  refine OW.yl (Wn.run rfl rfl rfl (by decide)) rfl (Yl.lss rfl rfl) ?_
  refine Oy rfl (Yl.pick_false rfl (by decide) rfl) ?_
  refine OW.nil ?_
  refine W.cond rfl (fun hq2 => ?_) (fun hq2 => ?_)
  ·have hq2d := of_decide_eq_true hq2
   have hB3 : bM3 l eps = (3, madeW3 l eps) := by unfold bM3; rw [hB2]; exact pick2_y (by dsimp only; omega)
   refine W.region ?_
   refine Oy rfl (Yl.move rfl) ?_
   refine Oy rfl (Yl.move rfl) ?_
   refine Oy rfl (Yl.move rfl) ?_
   refine Oy rfl (Yl.assign rfl) ?_
   refine Oy rfl (Yl.assign rfl) ?_
   refine Oy rfl (Yl.assign rfl) ?_
   refine OW.nil ?_
   refine W.region ?_
   refine Oy rfl (Yl.move rfl) ?_
   refine Oy rfl (Yl.addW (c := 4) rfl rfl rfl) ?_
   refine Oy rfl (Yl.assign rfl) ?_
   refine OW.nil ?_
   refine WL.round ?_
   refine W.seq ?_
   refine Wr ?_
   refine Oy rfl (Yl.move rfl) ?_
   refine Oy rfl (Yl.leq rfl rfl) ?_
   refine OW.nil ?_
   refine W.cond_t1 rfl (by decide) ?_
   refine W.skip ?_
   refine W.seq ?_
   refine W.block ?_
   refine Wr ?_
   refine Oy rfl (Yl.move rfl) ?_
   refine Oy rfl (Yl.move rfl) ?_
   refine Oy rfl (Yl.move rfl) ?_
   refine OW.call (Wn.plain rfl) rfl rfl rfl (FnC.tri0 Tryz.call38 (c_made4 l a c eps hp he)) (by repeat constructor) ?_
   rintro _ _ ⟨ys4, ya4, yc4, h4m, rfl, rfl⟩
   have hm4 := made_len h4m (cutW4_ok eps hl.1)
   refine Oy rfl (Yl.assign rfl) ?_
   refine OW.nil ?_
   refine Wr ?_
   refine Oy rfl (Yl.move rfl) ?_
   refine OW.call (Wn.plain rfl) rfl rfl rfl (FnC.tri0 Tryz.call65 (((c_wSize ys4 ya4 yc4 (by omega)).mono (R' := fun v L' => v = .tuple [.int .i64 (wsV (madeW4 l eps)), .int .i64 (wsE (madeW4 l eps))].toArray ∧ L' = []) (fun v L' h => by rw [h4m] at h; exact h)))) (by repeat constructor) ?_
   rintro _ _ ⟨rfl, rfl⟩
   refine Oy rfl (Yl.move rfl) ?_
   refine Oy rfl (Yl.extract rfl (by repeat constructor)) ?_
   refine Oy rfl (Yl.extract rfl (by repeat constructor)) ?_
   refine Oy rfl (Yl.assign rfl) ?_
   refine Oy rfl (Yl.assign rfl) ?_
   refine OW.nil ?_
   refine Wr ?_
   refine Oy rfl (Yl.move rfl) ?_
   refine Oy rfl (Yl.eql rfl rfl) ?_
   refine Oy rfl (Yl.move rfl) ?_
   refine OW.yl (Wn.run rfl rfl rfl (by decide)) rfl (Yl.move rfl) ?_
   refine OW.yl (Wn.run rfl rfl rfl (by decide)) rfl (Yl.move rfl) ?_
   refine OW.yl (Wn.run rfl rfl rfl (by decide)) rfl (Yl.lss rfl rfl) ?_
   refine Oy rfl (Yl.pick_false rfl (by decide) rfl) ?_
   refine OW.nil ?_
   refine W.cond rfl (fun hq3 => ?_) (fun hq3 => ?_)
   ·have hq3d := of_decide_eq_true hq3
    have hB4 : bestM l eps = (4, madeW4 l eps) := by unfold bestM; rw [hB3]; exact pick2_y (by dsimp only; omega)
    refine W.region ?_
    refine Oy rfl (Yl.move rfl) ?_
    refine Oy rfl (Yl.move rfl) ?_
    refine Oy rfl (Yl.move rfl) ?_
    refine Oy rfl (Yl.assign rfl) ?_
    refine Oy rfl (Yl.assign rfl) ?_
    refine Oy rfl (Yl.assign rfl) ?_
    refine OW.nil ?_
    refine W.region ?_
    refine Oy rfl (Yl.move rfl) ?_
    refine Oy rfl (Yl.addW (c := 5) rfl rfl rfl) ?_
    refine Oy rfl (Yl.assign rfl) ?_
    refine OW.nil ?_
    refine WL.round ?_
    refine W.seq ?_
    refine Wr ?_
    refine Oy rfl (Yl.move rfl) ?_
    refine Oy rfl (Yl.leq rfl rfl) ?_
    refine OW.nil ?_
    refine W.cond_f1 rfl (by decide) ?_
    refine W.exit ?_
    refine Wr ?_
    refine Oy rfl (Yl.move rfl) ?_
    refine Oy rfl (Yl.move rfl) ?_
    refine Oy rfl (Yl.assign rfl) ?_
    refine Oy rfl (Yl.assign rfl) ?_
    refine OW.nil ?_
    refine W.ret ?_
    rw [hB4]
    exact Fin.mk (Rsl.two rfl rfl rfl) ⟨ys4, _, _, h4m, rfl, rfl⟩ (by repeat constructor) (by repeat constructor)
   ·have hq3d := of_decide_eq_false hq3
    have hB4 : bestM l eps = (3, madeW3 l eps) := by unfold bestM; rw [hB3]; exact pick2_n (by dsimp only; omega)
    refine W.skip ?_
    refine W.region ?_
    refine Oy rfl (Yl.move rfl) ?_
    refine Oy rfl (Yl.addW (c := 5) rfl rfl rfl) ?_
    refine Oy rfl (Yl.assign rfl) ?_
    refine OW.nil ?_
    refine WL.round ?_
    refine W.seq ?_
    refine Wr ?_
    refine Oy rfl (Yl.move rfl) ?_
    refine Oy rfl (Yl.leq rfl rfl) ?_
    refine OW.nil ?_
    refine W.cond_f1 rfl (by decide) ?_
    refine W.exit ?_
    refine Wr ?_
    refine Oy rfl (Yl.move rfl) ?_
    refine Oy rfl (Yl.move rfl) ?_
    refine Oy rfl (Yl.assign rfl) ?_
    refine Oy rfl (Yl.assign rfl) ?_
    refine OW.nil ?_
    refine W.ret ?_
    rw [hB4]
    exact Fin.mk (Rsl.two rfl rfl rfl) ⟨ys3, _, _, h3m, rfl, rfl⟩ (by repeat constructor) (by repeat constructor)
  ·have hq2d := of_decide_eq_false hq2
   have hB3 : bM3 l eps = (2, madeW2 l eps) := by unfold bM3; rw [hB2]; exact pick2_n (by dsimp only; omega)
   refine W.skip ?_
   refine W.region ?_
   refine Oy rfl (Yl.move rfl) ?_
   refine Oy rfl (Yl.addW (c := 4) rfl rfl rfl) ?_
   refine Oy rfl (Yl.assign rfl) ?_
   refine OW.nil ?_
   refine WL.round ?_
   refine W.seq ?_
   refine Wr ?_
   refine Oy rfl (Yl.move rfl) ?_
   refine Oy rfl (Yl.leq rfl rfl) ?_
   refine OW.nil ?_
   refine W.cond_t1 rfl (by decide) ?_
   refine W.skip ?_
   refine W.seq ?_
   refine W.block ?_
   refine Wr ?_
   refine Oy rfl (Yl.move rfl) ?_
   refine Oy rfl (Yl.move rfl) ?_
   refine Oy rfl (Yl.move rfl) ?_
   refine OW.call (Wn.plain rfl) rfl rfl rfl (FnC.tri0 Tryz.call38 (c_made4 l a c eps hp he)) (by repeat constructor) ?_
   rintro _ _ ⟨ys4, ya4, yc4, h4m, rfl, rfl⟩
   have hm4 := made_len h4m (cutW4_ok eps hl.1)
   refine Oy rfl (Yl.assign rfl) ?_
   refine OW.nil ?_
   refine Wr ?_
   refine Oy rfl (Yl.move rfl) ?_
   refine OW.call (Wn.plain rfl) rfl rfl rfl (FnC.tri0 Tryz.call65 (((c_wSize ys4 ya4 yc4 (by omega)).mono (R' := fun v L' => v = .tuple [.int .i64 (wsV (madeW4 l eps)), .int .i64 (wsE (madeW4 l eps))].toArray ∧ L' = []) (fun v L' h => by rw [h4m] at h; exact h)))) (by repeat constructor) ?_
   rintro _ _ ⟨rfl, rfl⟩
   refine Oy rfl (Yl.move rfl) ?_
   refine Oy rfl (Yl.extract rfl (by repeat constructor)) ?_
   refine Oy rfl (Yl.extract rfl (by repeat constructor)) ?_
   refine Oy rfl (Yl.assign rfl) ?_
   refine Oy rfl (Yl.assign rfl) ?_
   refine OW.nil ?_
   refine Wr ?_
   refine Oy rfl (Yl.move rfl) ?_
   refine Oy rfl (Yl.eql rfl rfl) ?_
   refine Oy rfl (Yl.move rfl) ?_
   refine OW.yl (Wn.run rfl rfl rfl (by decide)) rfl (Yl.move rfl) ?_
   refine OW.yl (Wn.run rfl rfl rfl (by decide)) rfl (Yl.move rfl) ?_
   refine OW.yl (Wn.run rfl rfl rfl (by decide)) rfl (Yl.lss rfl rfl) ?_
   refine Oy rfl (Yl.pick_false rfl (by decide) rfl) ?_
   refine OW.nil ?_
   refine W.cond rfl (fun hq4 => ?_) (fun hq4 => ?_)
   ·have hq4d := of_decide_eq_true hq4
    have hB4 : bestM l eps = (4, madeW4 l eps) := by unfold bestM; rw [hB3]; exact pick2_y (by dsimp only; omega)
    refine W.region ?_
    refine Oy rfl (Yl.move rfl) ?_
    refine Oy rfl (Yl.move rfl) ?_
    refine Oy rfl (Yl.move rfl) ?_
    refine Oy rfl (Yl.assign rfl) ?_
    refine Oy rfl (Yl.assign rfl) ?_
    refine Oy rfl (Yl.assign rfl) ?_
    refine OW.nil ?_
    refine W.region ?_
    refine Oy rfl (Yl.move rfl) ?_
    refine Oy rfl (Yl.addW (c := 5) rfl rfl rfl) ?_
    refine Oy rfl (Yl.assign rfl) ?_
    refine OW.nil ?_
    refine WL.round ?_
    refine W.seq ?_
    refine Wr ?_
    refine Oy rfl (Yl.move rfl) ?_
    refine Oy rfl (Yl.leq rfl rfl) ?_
    refine OW.nil ?_
    refine W.cond_f1 rfl (by decide) ?_
    refine W.exit ?_
    refine Wr ?_
    refine Oy rfl (Yl.move rfl) ?_
    refine Oy rfl (Yl.move rfl) ?_
    refine Oy rfl (Yl.assign rfl) ?_
    refine Oy rfl (Yl.assign rfl) ?_
    refine OW.nil ?_
    refine W.ret ?_
    rw [hB4]
    exact Fin.mk (Rsl.two rfl rfl rfl) ⟨ys4, _, _, h4m, rfl, rfl⟩ (by repeat constructor) (by repeat constructor)
   ·have hq4d := of_decide_eq_false hq4
    have hB4 : bestM l eps = (2, madeW2 l eps) := by unfold bestM; rw [hB3]; exact pick2_n (by dsimp only; omega)
    refine W.skip ?_
    refine W.region ?_
    refine Oy rfl (Yl.move rfl) ?_
    refine Oy rfl (Yl.addW (c := 5) rfl rfl rfl) ?_
    refine Oy rfl (Yl.assign rfl) ?_
    refine OW.nil ?_
    refine WL.round ?_
    refine W.seq ?_
    refine Wr ?_
    refine Oy rfl (Yl.move rfl) ?_
    refine Oy rfl (Yl.leq rfl rfl) ?_
    refine OW.nil ?_
    refine W.cond_f1 rfl (by decide) ?_
    refine W.exit ?_
    refine Wr ?_
    refine Oy rfl (Yl.move rfl) ?_
    refine Oy rfl (Yl.move rfl) ?_
    refine Oy rfl (Yl.assign rfl) ?_
    refine Oy rfl (Yl.assign rfl) ?_
    refine OW.nil ?_
    refine W.ret ?_
    rw [hB4]
    exact Fin.mk (Rsl.two rfl rfl rfl) ⟨ys2, _, _, h2m, rfl, rfl⟩ (by repeat constructor) (by repeat constructor)
 ·have hq1d := of_decide_eq_false hq1
  have hB2 : bM2 l eps = (1, madeW1 l eps) := by unfold bM2; rw [hB1]; exact pick2_n (by dsimp only; omega)
  refine W.skip ?_
  refine W.region ?_
  refine Oy rfl (Yl.move rfl) ?_
  refine Oy rfl (Yl.addW (c := 3) rfl rfl rfl) ?_
  refine Oy rfl (Yl.assign rfl) ?_
  refine OW.nil ?_
  refine WL.round ?_
  refine W.seq ?_
  refine Wr ?_
  refine Oy rfl (Yl.move rfl) ?_
  refine Oy rfl (Yl.leq rfl rfl) ?_
  refine OW.nil ?_
  refine W.cond_t1 rfl (by decide) ?_
  refine W.skip ?_
  refine W.seq ?_
  refine W.block ?_
  refine Wr ?_
  refine Oy rfl (Yl.move rfl) ?_
  refine Oy rfl (Yl.move rfl) ?_
  refine Oy rfl (Yl.move rfl) ?_
  refine OW.call (Wn.plain rfl) rfl rfl rfl (FnC.tri0 Tryz.call38 (c_made3 l a c eps hp he)) (by repeat constructor) ?_
  rintro _ _ ⟨ys3, ya3, yc3, h3m, rfl, rfl⟩
  have hm3 := made_len h3m (cutW3_ok l eps)
  refine Oy rfl (Yl.assign rfl) ?_
  refine OW.nil ?_
  refine Wr ?_
  refine Oy rfl (Yl.move rfl) ?_
  refine OW.call (Wn.plain rfl) rfl rfl rfl (FnC.tri0 Tryz.call65 (((c_wSize ys3 ya3 yc3 (by omega)).mono (R' := fun v L' => v = .tuple [.int .i64 (wsV (madeW3 l eps)), .int .i64 (wsE (madeW3 l eps))].toArray ∧ L' = []) (fun v L' h => by rw [h3m] at h; exact h)))) (by repeat constructor) ?_
  rintro _ _ ⟨rfl, rfl⟩
  refine Oy rfl (Yl.move rfl) ?_
  refine Oy rfl (Yl.extract rfl (by repeat constructor)) ?_
  refine Oy rfl (Yl.extract rfl (by repeat constructor)) ?_
  refine Oy rfl (Yl.assign rfl) ?_
  refine Oy rfl (Yl.assign rfl) ?_
  refine OW.nil ?_
  refine Wr ?_
  refine Oy rfl (Yl.move rfl) ?_
  refine Oy rfl (Yl.eql rfl rfl) ?_
  refine Oy rfl (Yl.move rfl) ?_
  refine OW.yl (Wn.run rfl rfl rfl (by decide)) rfl (Yl.move rfl) ?_
  refine OW.yl (Wn.run rfl rfl rfl (by decide)) rfl (Yl.move rfl) ?_
  refine OW.yl (Wn.run rfl rfl rfl (by decide)) rfl (Yl.lss rfl rfl) ?_
  refine Oy rfl (Yl.pick_false rfl (by decide) rfl) ?_
  refine OW.nil ?_
  refine W.cond rfl (fun hq5 => ?_) (fun hq5 => ?_)
  ·have hq5d := of_decide_eq_true hq5
   have hB3 : bM3 l eps = (3, madeW3 l eps) := by unfold bM3; rw [hB2]; exact pick2_y (by dsimp only; omega)
   refine W.region ?_
   refine Oy rfl (Yl.move rfl) ?_
   refine Oy rfl (Yl.move rfl) ?_
   refine Oy rfl (Yl.move rfl) ?_
   refine Oy rfl (Yl.assign rfl) ?_
   refine Oy rfl (Yl.assign rfl) ?_
   refine Oy rfl (Yl.assign rfl) ?_
   refine OW.nil ?_
   refine W.region ?_
   refine Oy rfl (Yl.move rfl) ?_
   refine Oy rfl (Yl.addW (c := 4) rfl rfl rfl) ?_
   refine Oy rfl (Yl.assign rfl) ?_
   refine OW.nil ?_
   refine WL.round ?_
   refine W.seq ?_
   refine Wr ?_
   refine Oy rfl (Yl.move rfl) ?_
   refine Oy rfl (Yl.leq rfl rfl) ?_
   refine OW.nil ?_
   refine W.cond_t1 rfl (by decide) ?_
   refine W.skip ?_
   refine W.seq ?_
   refine W.block ?_
   refine Wr ?_
   refine Oy rfl (Yl.move rfl) ?_
   refine Oy rfl (Yl.move rfl) ?_
   refine Oy rfl (Yl.move rfl) ?_
   refine OW.call (Wn.plain rfl) rfl rfl rfl (FnC.tri0 Tryz.call38 (c_made4 l a c eps hp he)) (by repeat constructor) ?_
   rintro _ _ ⟨ys4, ya4, yc4, h4m, rfl, rfl⟩
   have hm4 := made_len h4m (cutW4_ok eps hl.1)
   refine Oy rfl (Yl.assign rfl) ?_
   refine OW.nil ?_
   refine Wr ?_
   refine Oy rfl (Yl.move rfl) ?_
   refine OW.call (Wn.plain rfl) rfl rfl rfl (FnC.tri0 Tryz.call65 (((c_wSize ys4 ya4 yc4 (by omega)).mono (R' := fun v L' => v = .tuple [.int .i64 (wsV (madeW4 l eps)), .int .i64 (wsE (madeW4 l eps))].toArray ∧ L' = []) (fun v L' h => by rw [h4m] at h; exact h)))) (by repeat constructor) ?_
   rintro _ _ ⟨rfl, rfl⟩
   refine Oy rfl (Yl.move rfl) ?_
   refine Oy rfl (Yl.extract rfl (by repeat constructor)) ?_
   refine Oy rfl (Yl.extract rfl (by repeat constructor)) ?_
   refine Oy rfl (Yl.assign rfl) ?_
   refine Oy rfl (Yl.assign rfl) ?_
   refine OW.nil ?_
   refine Wr ?_
   refine Oy rfl (Yl.move rfl) ?_
   refine Oy rfl (Yl.eql rfl rfl) ?_
   refine Oy rfl (Yl.move rfl) ?_
   refine OW.yl (Wn.run rfl rfl rfl (by decide)) rfl (Yl.move rfl) ?_
   refine OW.yl (Wn.run rfl rfl rfl (by decide)) rfl (Yl.move rfl) ?_
   refine OW.yl (Wn.run rfl rfl rfl (by decide)) rfl (Yl.lss rfl rfl) ?_
   refine Oy rfl (Yl.pick_false rfl (by decide) rfl) ?_
   refine OW.nil ?_
   refine W.cond rfl (fun hq6 => ?_) (fun hq6 => ?_)
   ·have hq6d := of_decide_eq_true hq6
    have hB4 : bestM l eps = (4, madeW4 l eps) := by unfold bestM; rw [hB3]; exact pick2_y (by dsimp only; omega)
    refine W.region ?_
    refine Oy rfl (Yl.move rfl) ?_
    refine Oy rfl (Yl.move rfl) ?_
    refine Oy rfl (Yl.move rfl) ?_
    refine Oy rfl (Yl.assign rfl) ?_
    refine Oy rfl (Yl.assign rfl) ?_
    refine Oy rfl (Yl.assign rfl) ?_
    refine OW.nil ?_
    refine W.region ?_
    refine Oy rfl (Yl.move rfl) ?_
    refine Oy rfl (Yl.addW (c := 5) rfl rfl rfl) ?_
    refine Oy rfl (Yl.assign rfl) ?_
    refine OW.nil ?_
    refine WL.round ?_
    refine W.seq ?_
    refine Wr ?_
    refine Oy rfl (Yl.move rfl) ?_
    refine Oy rfl (Yl.leq rfl rfl) ?_
    refine OW.nil ?_
    refine W.cond_f1 rfl (by decide) ?_
    refine W.exit ?_
    refine Wr ?_
    refine Oy rfl (Yl.move rfl) ?_
    refine Oy rfl (Yl.move rfl) ?_
    refine Oy rfl (Yl.assign rfl) ?_
    refine Oy rfl (Yl.assign rfl) ?_
    refine OW.nil ?_
    refine W.ret ?_
    rw [hB4]
    exact Fin.mk (Rsl.two rfl rfl rfl) ⟨ys4, _, _, h4m, rfl, rfl⟩ (by repeat constructor) (by repeat constructor)
   ·have hq6d := of_decide_eq_false hq6
    have hB4 : bestM l eps = (3, madeW3 l eps) := by unfold bestM; rw [hB3]; exact pick2_n (by dsimp only; omega)
    refine W.skip ?_
    refine W.region ?_
    refine Oy rfl (Yl.move rfl) ?_
    refine Oy rfl (Yl.addW (c := 5) rfl rfl rfl) ?_
    refine Oy rfl (Yl.assign rfl) ?_
    refine OW.nil ?_
    refine WL.round ?_
    refine W.seq ?_
    refine Wr ?_
    refine Oy rfl (Yl.move rfl) ?_
    refine Oy rfl (Yl.leq rfl rfl) ?_
    refine OW.nil ?_
    refine W.cond_f1 rfl (by decide) ?_
    refine W.exit ?_
    refine Wr ?_
    refine Oy rfl (Yl.move rfl) ?_
    refine Oy rfl (Yl.move rfl) ?_
    refine Oy rfl (Yl.assign rfl) ?_
    refine Oy rfl (Yl.assign rfl) ?_
    refine OW.nil ?_
    refine W.ret ?_
    rw [hB4]
    exact Fin.mk (Rsl.two rfl rfl rfl) ⟨ys3, _, _, h3m, rfl, rfl⟩ (by repeat constructor) (by repeat constructor)
  ·have hq5d := of_decide_eq_false hq5
   have hB3 : bM3 l eps = (1, madeW1 l eps) := by unfold bM3; rw [hB2]; exact pick2_n (by dsimp only; omega)
   refine W.skip ?_
   refine W.region ?_
   refine Oy rfl (Yl.move rfl) ?_
   refine Oy rfl (Yl.addW (c := 4) rfl rfl rfl) ?_
   refine Oy rfl (Yl.assign rfl) ?_
   refine OW.nil ?_
   refine WL.round ?_
   refine W.seq ?_
   refine Wr ?_
   refine Oy rfl (Yl.move rfl) ?_
   refine Oy rfl (Yl.leq rfl rfl) ?_
   refine OW.nil ?_
   refine W.cond_t1 rfl (by decide) ?_
   refine W.skip ?_
   refine W.seq ?_
   refine W.block ?_
   refine Wr ?_
   refine Oy rfl (Yl.move rfl) ?_
   refine Oy rfl (Yl.move rfl) ?_
   refine Oy rfl (Yl.move rfl) ?_
   refine OW.call (Wn.plain rfl) rfl rfl rfl (FnC.tri0 Tryz.call38 (c_made4 l a c eps hp he)) (by repeat constructor) ?_
   rintro _ _ ⟨ys4, ya4, yc4, h4m, rfl, rfl⟩
   have hm4 := made_len h4m (cutW4_ok eps hl.1)
   refine Oy rfl (Yl.assign rfl) ?_
   refine OW.nil ?_
   refine Wr ?_
   refine Oy rfl (Yl.move rfl) ?_
   refine OW.call (Wn.plain rfl) rfl rfl rfl (FnC.tri0 Tryz.call65 (((c_wSize ys4 ya4 yc4 (by omega)).mono (R' := fun v L' => v = .tuple [.int .i64 (wsV (madeW4 l eps)), .int .i64 (wsE (madeW4 l eps))].toArray ∧ L' = []) (fun v L' h => by rw [h4m] at h; exact h)))) (by repeat constructor) ?_
   rintro _ _ ⟨rfl, rfl⟩
   refine Oy rfl (Yl.move rfl) ?_
   refine Oy rfl (Yl.extract rfl (by repeat constructor)) ?_
   refine Oy rfl (Yl.extract rfl (by repeat constructor)) ?_
   refine Oy rfl (Yl.assign rfl) ?_
   refine Oy rfl (Yl.assign rfl) ?_
   refine OW.nil ?_
   refine Wr ?_
   refine Oy rfl (Yl.move rfl) ?_
   refine Oy rfl (Yl.eql rfl rfl) ?_
   refine Oy rfl (Yl.move rfl) ?_
   refine OW.yl (Wn.run rfl rfl rfl (by decide)) rfl (Yl.move rfl) ?_
   refine OW.yl (Wn.run rfl rfl rfl (by decide)) rfl (Yl.move rfl) ?_
   refine OW.yl (Wn.run rfl rfl rfl (by decide)) rfl (Yl.lss rfl rfl) ?_
   refine Oy rfl (Yl.pick_false rfl (by decide) rfl) ?_
   refine OW.nil ?_
   refine W.cond rfl (fun hq7 => ?_) (fun hq7 => ?_)
   ·have hq7d := of_decide_eq_true hq7
    have hB4 : bestM l eps = (4, madeW4 l eps) := by unfold bestM; rw [hB3]; exact pick2_y (by dsimp only; omega)
    refine W.region ?_
    refine Oy rfl (Yl.move rfl) ?_
    refine Oy rfl (Yl.move rfl) ?_
    refine Oy rfl (Yl.move rfl) ?_
    refine Oy rfl (Yl.assign rfl) ?_
    refine Oy rfl (Yl.assign rfl) ?_
    refine Oy rfl (Yl.assign rfl) ?_
    refine OW.nil ?_
    refine W.region ?_
    refine Oy rfl (Yl.move rfl) ?_
    refine Oy rfl (Yl.addW (c := 5) rfl rfl rfl) ?_
    refine Oy rfl (Yl.assign rfl) ?_
    refine OW.nil ?_
    refine WL.round ?_
    refine W.seq ?_
    refine Wr ?_
    refine Oy rfl (Yl.move rfl) ?_
    refine Oy rfl (Yl.leq rfl rfl) ?_
    refine OW.nil ?_
    refine W.cond_f1 rfl (by decide) ?_
    refine W.exit ?_
    refine Wr ?_
    refine Oy rfl (Yl.move rfl) ?_
    refine Oy rfl (Yl.move rfl) ?_
    refine Oy rfl (Yl.assign rfl) ?_
    refine Oy rfl (Yl.assign rfl) ?_
    refine OW.nil ?_
    refine W.ret ?_
    rw [hB4]
    exact Fin.mk (Rsl.two rfl rfl rfl) ⟨ys4, _, _, h4m, rfl, rfl⟩ (by repeat constructor) (by repeat constructor)
   ·have hq7d := of_decide_eq_false hq7
    have hB4 : bestM l eps = (1, madeW1 l eps) := by unfold bestM; rw [hB3]; exact pick2_n (by dsimp only; omega)
    refine W.skip ?_
    refine W.region ?_
    refine Oy rfl (Yl.move rfl) ?_
    refine Oy rfl (Yl.addW (c := 5) rfl rfl rfl) ?_
    refine Oy rfl (Yl.assign rfl) ?_
    refine OW.nil ?_
    refine WL.round ?_
    refine W.seq ?_
    refine Wr ?_
    refine Oy rfl (Yl.move rfl) ?_
    refine Oy rfl (Yl.leq rfl rfl) ?_
    refine OW.nil ?_
    refine W.cond_f1 rfl (by decide) ?_
    refine W.exit ?_
    refine Wr ?_
    refine Oy rfl (Yl.move rfl) ?_
    refine Oy rfl (Yl.move rfl) ?_
    refine Oy rfl (Yl.assign rfl) ?_
    refine Oy rfl (Yl.assign rfl) ?_
    refine OW.nil ?_
    refine W.ret ?_
    rw [hB4]
    exact Fin.mk (Rsl.two rfl rfl rfl) ⟨ys1, _, _, h1m, rfl, rfl⟩ (by repeat constructor) (by repeat constructor)

theorem bothE_0 {l : List Pt} {eps : Int} (h : bothE l eps = 0) : pointsM l = true ∧ (0 ≤ eps ∧ eps ≤ 1099511627776) := by
 unfold bothE at h
 cases hp : pointsM l <;> rw [hp] at h <;> simp only [Bool.false_eq_true, if_false, if_true] at h
 ·omega
 ·cases hq : epsM eps <;> rw [hq] at h <;> simp only [Bool.false_eq_true, if_false, if_true] at h
  ·omega
  ·exact ⟨rfl, of_decide_eq_true hq⟩
theorem FnC.ent {P : Program} {f : FuncId} {args : Array Value} {L L2 : List Res} {R : Value → List Res → Prop} (h : FnC P f args L R) (he : ∀ Lf, Ent (L2 ++ Lf) (L ++ Lf)) : FnC P f args L2 R := fun Lf κ w hs => h Lf κ w (he Lf κ w hs)
theorem ent_two (a b : Res) (Lf : List Res) : Ent ([a, b] ++ Lf) ([a] ++ Lf) := (Ent.perm (List.Perm.swap b a Lf)).trans (Ent.drop b _)
def madeW (w : Int) (l : List Pt) (eps : Int) : List Sg := if w = 1 then madeW1 l eps else if w = 2 then madeW2 l eps else if w = 3 then madeW3 l eps else madeW4 l eps
theorem c_made (w : Int) (hw : 1 ≤ w ∧ w ≤ 4) (l : List Pt) (a : Option Addr) (c : Nat) (eps : Int) (hp : pointsM l = true) (he : 0 ≤ eps ∧ eps ≤ 1099511627776) :
  FnC Tryz.prog 38 #[.slice a l.length c, .int .i64 eps, .int .i64 w] [rowI 2 encT l a c, glob0] (RetSegs (madeW w l eps)) := by
 rcases (show w = 1 ∨ w = 2 ∨ w = 3 ∨ w = 4 by omega) with rfl | rfl | rfl | rfl
 ·exact (c_made1 l a c eps hp he).ent (ent_two _ _)
 ·exact (c_made2 l a c eps hp he).ent (ent_two _ _)
 ·exact c_made3 l a c eps hp he
 ·exact (c_made4 l a c eps hp he).ent (ent_two _ _)

theorem c_wBest (l : List Pt) (a : Option Addr) (c : Nat) (eps : Int) : FnC Tryz.prog 36 #[.slice a l.length c, .int .i64 eps] [rowI 2 encT l a c, glob0] (fun v L' => v = .tuple [.int .i64 (if bothE l eps = 0 then ((bestM l eps).1 : Int) else 0), .int .i64 (bothE l eps)].toArray ∧ L' = []) := by
 refine FnC.go (m := 22) Tryz.func36 Tryz.ntmps36 rfl (Nat.le_of_ble_eq_true rfl) (fun Lf => ?_)
 refine Wr ?_
 refine Oy rfl (Yl.assign rfl) ?_
 refine Oy rfl (Yl.assign rfl) ?_
 refine OW.nil ?_
 refine W.seq ?_
 refine Wr ?_
 refine Oy rfl (Yl.move rfl) ?_
 refine Oy rfl (Yl.move rfl) ?_
 refine OW.callv (Wn.plain rfl) rfl Tryz.call37 rfl (c_wboth _ _ _ _) (by repeat constructor) ?_
 refine Oy rfl (Yl.assign rfl) ?_
 refine OW.nil ?_
 refine Wr ?_
 refine Oy rfl (Yl.move rfl) ?_
 refine Oy rfl (Yl.neq rfl rfl) ?_
 refine OW.nil ?_
 refine W.cond rfl (fun hq1 => ?_) (fun hq1 => ?_)
 ·have hq1d := of_decide_eq_true hq1
  have hb0 : ¬ bothE l eps = 0 := by omega
  refine Wr ?_
  refine Oy rfl (Yl.move rfl) ?_
  refine Oy rfl (Yl.assign rfl) ?_
  refine Oy rfl (Yl.assign rfl) ?_
  refine OW.nil ?_
  refine W.ret ?_
  refine Fin.mk (Rsl.two rfl rfl rfl) ⟨?_, rfl⟩ (by repeat constructor) (by repeat constructor)
  first | (rw [if_pos hb0, hb0]; done) | (rw [if_neg hb0]; done) | (rw [if_pos hb0, hb0]; rfl) | (rw [if_neg hb0]; rfl)
 ·have hq1d := of_decide_eq_false hq1
  have hb0 : bothE l eps = 0 := by omega
  obtain ⟨hp, he⟩ := bothE_0 hb0
  refine W.skip ?_
  refine Wr ?_
  refine Oy rfl (Yl.move rfl) ?_
  refine Oy rfl (Yl.move rfl) ?_
  refine OW.call (Wn.plain rfl) rfl rfl rfl (FnC.tri0 Tryz.call73 (c_wbest l _ _ eps hp he)) (by repeat constructor) ?_
  rintro _ _ ⟨ys, ya, yc, hys, rfl, rfl⟩
  refine Oy rfl (Yl.move rfl) ?_
  refine Oy rfl (Yl.extract rfl (by repeat constructor)) ?_
  refine Oy rfl (Yl.extract rfl (by repeat constructor)) ?_
  refine Oy rfl (Yl.assign rfl) ?_
  refine Oy rfl (Yl.assign rfl) ?_
  refine OW.nil ?_
  refine Wr ?_
  refine Oy rfl (Yl.move rfl) ?_
  refine Oy rfl (Yl.assign rfl) ?_
  refine Oy rfl (Yl.assign rfl) ?_
  refine OW.nil ?_
  refine W.ret ?_
  refine Fin.mk (Rsl.two rfl rfl rfl) ⟨?_, rfl⟩ (by repeat constructor) (by repeat constructor)
  first | (rw [if_pos hb0, hb0]; done) | (rw [if_neg hb0]; done) | (rw [if_pos hb0, hb0]; rfl) | (rw [if_neg hb0]; rfl)
theorem c_wChoose (l : List Pt) (a : Option Addr) (c : Nat) (eps : Int) : FnC Tryz.prog 35 #[.slice a l.length c, .int .i64 eps] [rowI 2 encT l a c, glob0] (fun v L' => (¬ bothE l eps = 0 ∧ v = .tuple [.slice none 0 0, .int .i64 (bothE l eps)].toArray ∧ L' = []) ∨ (bothE l eps = 0 ∧ ∃ (ys : List SgV) (a : Option Addr) (c : Nat), ys.map Prod.fst = (bestM l eps).2 ∧ v = .tuple [.slice a ys.length c, .int .i64 0].toArray ∧ L' = [rowI 8 encV ys a c, .imm (segsI ys)])) := by
 refine FnC.go (m := 22) Tryz.func35 Tryz.ntmps35 rfl (Nat.le_of_ble_eq_true rfl) (fun Lf => ?_)
 refine Wr ?_
 refine Oy rfl (Yl.assign rfl) ?_
 refine Oy rfl (Yl.assign rfl) ?_
 refine OW.nil ?_
 refine W.seq ?_
 refine Wr ?_
 refine Oy rfl (Yl.move rfl) ?_
 refine Oy rfl (Yl.move rfl) ?_
 refine OW.callv (Wn.plain rfl) rfl Tryz.call37 rfl (c_wboth _ _ _ _) (by repeat constructor) ?_
 refine Oy rfl (Yl.assign rfl) ?_
 refine OW.nil ?_
 refine Wr ?_
 refine Oy rfl (Yl.move rfl) ?_
 refine Oy rfl (Yl.neq rfl rfl) ?_
 refine OW.nil ?_
 refine W.cond rfl (fun hq1 => ?_) (fun hq1 => ?_)
 ·have hq1d := of_decide_eq_true hq1
  have hb0 : ¬ bothE l eps = 0 := by omega
  refine Wr ?_
  refine Oy rfl (Yl.move rfl) ?_
  refine Oy rfl (Yl.assign rfl) ?_
  refine Oy rfl (Yl.assign rfl) ?_
  refine OW.nil ?_
  refine W.ret ?_
  exact Fin.mk (Rsl.two rfl rfl rfl) (.inl ⟨hb0, rfl, rfl⟩) (by repeat constructor) (by repeat constructor)
 ·have hq1d := of_decide_eq_false hq1
  have hb0 : bothE l eps = 0 := by omega
  obtain ⟨hp, he⟩ := bothE_0 hb0
  refine W.skip ?_
  refine Wr ?_
  refine Oy rfl (Yl.move rfl) ?_
  refine Oy rfl (Yl.move rfl) ?_
  refine OW.call (Wn.plain rfl) rfl rfl rfl (FnC.tri0 Tryz.call73 (c_wbest l _ _ eps hp he)) (by repeat constructor) ?_
  rintro _ _ ⟨ys, ya, yc, hys, rfl, rfl⟩
  refine Oy rfl (Yl.move rfl) ?_
  refine Oy rfl (Yl.extract rfl (by repeat constructor)) ?_
  refine Oy rfl (Yl.extract rfl (by repeat constructor)) ?_
  refine Oy rfl (Yl.assign rfl) ?_
  refine Oy rfl (Yl.assign rfl) ?_
  refine OW.nil ?_
  refine Wr ?_
  refine Oy rfl (Yl.move rfl) ?_
  refine Oy rfl (Yl.assign rfl) ?_
  refine Oy rfl (Yl.assign rfl) ?_
  refine OW.nil ?_
  refine W.ret ?_
  exact Fin.mk (Rsl.two rfl rfl rfl) (.inr ⟨hb0, ys, _, _, hys, rfl, rfl⟩) (by repeat constructor) (by repeat constructor)
theorem c_wWay (l : List Pt) (a : Option Addr) (c : Nat) (eps w : Int) : FnC Tryz.prog 11 #[.slice a l.length c, .int .i64 eps, .int .i64 w] [rowI 2 encT l a c, glob0] (fun v L' => (¬ bothE l eps = 0 ∧ v = .tuple [.slice none 0 0, .int .i64 (bothE l eps)].toArray ∧ L' = []) ∨ (bothE l eps = 0 ∧ ¬ (1 ≤ w ∧ w ≤ 4) ∧ v = .tuple [.slice none 0 0, .int .i64 2].toArray ∧ L' = []) ∨ (bothE l eps = 0 ∧ (1 ≤ w ∧ w ≤ 4) ∧ ∃ (ys : List SgV) (a : Option Addr) (c : Nat), ys.map Prod.fst = madeW w l eps ∧ v = .tuple [.slice a ys.length c, .int .i64 0].toArray ∧ L' = [rowI 8 encV ys a c, .imm (segsI ys)])) := by
 refine FnC.go (m := 25) Tryz.func11 Tryz.ntmps11 rfl (Nat.le_of_ble_eq_true rfl) (fun Lf => ?_)
 refine Wr ?_
 refine Oy rfl (Yl.assign rfl) ?_
 refine Oy rfl (Yl.assign rfl) ?_
 refine OW.nil ?_
 refine W.seq ?_
 refine Wr ?_
 refine Oy rfl (Yl.move rfl) ?_
 refine Oy rfl (Yl.move rfl) ?_
 refine OW.callv (Wn.plain rfl) rfl Tryz.call37 rfl (c_wboth _ _ _ _) (by repeat constructor) ?_
 refine Oy rfl (Yl.assign rfl) ?_
 refine OW.nil ?_
 refine Wr ?_
 refine Oy rfl (Yl.move rfl) ?_
 refine Oy rfl (Yl.neq rfl rfl) ?_
 refine OW.nil ?_
 refine W.cond rfl (fun hq1 => ?_) (fun hq1 => ?_)
 ·have hq1d := of_decide_eq_true hq1
  have hb0 : ¬ bothE l eps = 0 := by omega
  refine Wr ?_
  refine Oy rfl (Yl.move rfl) ?_
  refine Oy rfl (Yl.assign rfl) ?_
  refine Oy rfl (Yl.assign rfl) ?_
  refine OW.nil ?_
  refine W.ret ?_
  exact Fin.mk (Rsl.two rfl rfl rfl) (.inl ⟨hb0, rfl, rfl⟩) (by repeat constructor) (by repeat constructor)
 ·have hq1d := of_decide_eq_false hq1
  have hb0 : bothE l eps = 0 := by omega
  obtain ⟨hp, he⟩ := bothE_0 hb0
  refine W.skip ?_
  refine W.seq ?_
  refine Wr ?_
  refine Oy rfl (Yl.move rfl) ?_
  refine Oy rfl (Yl.lss rfl rfl) ?_
  refine Oy rfl (Yl.move rfl) ?_
  refine OW.split (t := 17) rfl (fun hq2 => ?_) (fun hq2 => ?_)
  ·have hq2d := of_decide_eq_true hq2
   refine OW.not (Wn.not rfl rfl rfl hq2) rfl ?_
   refine OW.not (Wn.not rfl rfl rfl hq2) rfl ?_
   refine Oy rfl (Yl.pick_true rfl hq2 rfl) ?_
   refine OW.nil ?_
   refine W.cond_true rfl ?_
   refine Wr ?_
   refine Oy rfl (Yl.assign rfl) ?_
   refine Oy rfl (Yl.assign rfl) ?_
   refine OW.nil ?_
   refine W.ret ?_
   exact Fin.mk (Rsl.two rfl rfl rfl) (.inr (.inl ⟨hb0, by omega, rfl, rfl⟩)) (by repeat constructor) (by repeat constructor)
  ·have hq2d := of_decide_eq_false hq2
   refine OW.yl (Wn.run rfl rfl rfl hq2) rfl (Yl.move rfl) ?_
   refine OW.yl (Wn.run rfl rfl rfl hq2) rfl (Yl.gtr rfl rfl) ?_
   refine Oy rfl (Yl.pick_false rfl hq2 rfl) ?_
   refine OW.nil ?_
   refine W.cond rfl (fun hq3 => ?_) (fun hq3 => ?_)
   ·have hq3d := of_decide_eq_true hq3
    refine Wr ?_
    refine Oy rfl (Yl.assign rfl) ?_
    refine Oy rfl (Yl.assign rfl) ?_
    refine OW.nil ?_
    refine W.ret ?_
    exact Fin.mk (Rsl.two rfl rfl rfl) (.inr (.inl ⟨hb0, by omega, rfl, rfl⟩)) (by repeat constructor) (by repeat constructor)
   ·have hq3d := of_decide_eq_false hq3
    refine W.skip ?_
    refine Wr ?_
    refine Oy rfl (Yl.move rfl) ?_
    refine Oy rfl (Yl.move rfl) ?_
    refine Oy rfl (Yl.move rfl) ?_
    refine OW.call (Wn.plain rfl) rfl rfl rfl (FnC.tri0 Tryz.call38 (c_made w (by omega) l _ _ eps hp he)) (by repeat constructor) ?_
    rintro _ _ ⟨ys, ya, yc, hys, rfl, rfl⟩
    refine Oy rfl (Yl.assign rfl) ?_
    refine Oy rfl (Yl.assign rfl) ?_
    refine OW.nil ?_
    refine W.ret ?_
    exact Fin.mk (Rsl.two rfl rfl rfl) (.inr (.inr ⟨hb0, by omega, ys, _, _, hys, rfl, rfl⟩)) (by repeat constructor) (by repeat constructor)
theorem c_wBands (l : List Pt) (a : Option Addr) (c : Nat) (eps : Int) : FnC Tryz.prog 16 #[.slice a l.length c, .int .i64 eps] [rowI 2 encT l a c] (fun v L' => (¬ bothE l eps = 0 ∧ v = .tuple [.slice none 0 0, .int .i64 (bothE l eps)].toArray ∧ L' = []) ∨ (bothE l eps = 0 ∧ ∃ (a : Option Addr) (c : Nat), v = .tuple [.slice a (l.map (bandP eps)).length c, .int .i64 0].toArray ∧ L' = [rowI 3 encB (l.map (bandP eps)) a c])) := by
 refine FnC.go (m := 16) Tryz.func16 Tryz.ntmps16 rfl (Nat.le_of_ble_eq_true rfl) (fun Lf => ?_)
 refine Wr ?_
 refine Oy rfl (Yl.assign rfl) ?_
 refine Oy rfl (Yl.assign rfl) ?_
 refine OW.nil ?_
 refine W.seq ?_
 refine Wr ?_
 refine Oy rfl (Yl.move rfl) ?_
 refine Oy rfl (Yl.move rfl) ?_
 refine OW.callv (Wn.plain rfl) rfl Tryz.call37 rfl (c_wboth _ _ _ _) (by repeat constructor) ?_
 refine Oy rfl (Yl.assign rfl) ?_
 refine OW.nil ?_
 refine Wr ?_
 refine Oy rfl (Yl.move rfl) ?_
 refine Oy rfl (Yl.neq rfl rfl) ?_
 refine OW.nil ?_
 refine W.cond rfl (fun hq1 => ?_) (fun hq1 => ?_)
 ·have hq1d := of_decide_eq_true hq1
  have hb0 : ¬ bothE l eps = 0 := by omega
  refine Wr ?_
  refine Oy rfl (Yl.move rfl) ?_
  refine Oy rfl (Yl.assign rfl) ?_
  refine Oy rfl (Yl.assign rfl) ?_
  refine OW.nil ?_
  refine W.ret ?_
  exact Fin.mk (Rsl.two rfl rfl rfl) (.inl ⟨hb0, rfl, rfl⟩) (by repeat constructor) (by repeat constructor)
 ·have hq1d := of_decide_eq_false hq1
  have hb0 : bothE l eps = 0 := by omega
  obtain ⟨hp, he⟩ := bothE_0 hb0
  refine W.skip ?_
  refine Wr ?_
  refine Oy rfl (Yl.move rfl) ?_
  refine Oy rfl (Yl.move rfl) ?_
  refine OW.call (Wn.plain rfl) rfl rfl rfl (FnC.tri0 Tryz.call45 (c_wbands l _ _ eps (by have := pts_len hp; omega) (pts_ok hp) he)) (by repeat constructor) ?_
  rintro _ _ ⟨ya, yc, rfl, rfl⟩
  refine Oy rfl (Yl.assign rfl) ?_
  refine Oy rfl (Yl.assign rfl) ?_
  refine OW.nil ?_
  refine W.ret ?_
  exact Fin.mk (Rsl.two rfl rfl rfl) (.inr ⟨hb0, _, _, rfl, rfl⟩) (by repeat constructor) (by repeat constructor)
end Go.Yb
