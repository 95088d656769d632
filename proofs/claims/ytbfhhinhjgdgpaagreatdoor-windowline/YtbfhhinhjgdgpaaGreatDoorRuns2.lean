/-
  A part of the proof of windowLine_holds: see the text that holds it. No conditions of its own.
-/
import Derived.Test.YtbfhhinhjgdgpaaGreatDoorRuns
namespace Go.Yb
open Go Go.Proofs Go.RowKit

theorem c_rCheck (l : List Rn) (a : Option Addr) (c : Nat) : FnV Tryz.prog 104 #[.slice a l.length c] [rowI 3 encR l a c] (.int .i64 (if risesM l then 0 else 170)) := by
 refine FnC.go (m := 6) Tryz.func104 Tryz.ntmps104 rfl (Nat.le_of_ble_eq_true rfl) (fun Lf => ?_)
 refine Wr ?_
 refine Oy rfl (Yl.assign rfl) ?_
 refine OW.nil ?_
 refine W.seq ?_
 refine Wr ?_
 refine Oy rfl (Yl.move rfl) ?_
 refine OW.callv (Wn.plain rfl) rfl Tryz.call106 rfl (c_rises _ _ _) (by repeat constructor) ?_
 refine Oy rfl (Yl.not rfl) ?_
 refine OW.nil ?_
 refine W.cond rfl (fun hq1 => ?_) (fun hq1 => ?_)
 ·have hq1n := not_t hq1
  refine Wr ?_
  refine Oy rfl (Yl.assign rfl) ?_
  refine OW.nil ?_
  refine W.ret ?_
  refine Fin.mk (Rsl.one rfl rfl) ⟨?_, rfl⟩ (by repeat constructor) (by repeat constructor)
  first | (rw [if_pos (by simpa using hq1)]) | (rw [if_neg (by simpa using hq1)])
 ·have hq1n := not_f hq1
  refine W.skip ?_
  refine Wr ?_
  refine Oy rfl (Yl.assign rfl) ?_
  refine OW.nil ?_
  refine W.ret ?_
  refine Fin.mk (Rsl.one rfl rfl) ⟨?_, rfl⟩ (by repeat constructor) (by repeat constructor)
  first | (rw [if_pos (by simpa using hq1)]) | (rw [if_neg (by simpa using hq1)])
theorem c_rmany (l : List Rn) (a : Option Addr) (c : Nat) (h : risesM l = true) : FnV Tryz.prog 107 #[.slice a l.length c] [rowI 3 encR l a c] (.int .i64 (manyR l)) := by
 refine FnC.go (m := 18) Tryz.func107 Tryz.ntmps107 rfl (Nat.le_of_ble_eq_true rfl) (fun Lf => ?_)
 obtain ⟨h1, h2, h3⟩ := risesM_t h
 have hall := risesL_all h2
 refine Wr ?_
 refine Oy rfl (Yl.assign rfl) ?_
 refine OW.nil ?_
 refine Wr ?_
 refine Oy rfl (Yl.assign rfl) ?_
 refine OW.nil ?_
 refine W.seq ?_
 refine Wr ?_
 refine Oy rfl (Yl.move rfl) ?_
 refine Oy rfl (Yl.len ⟨Tryz.underlying50, Tryz.sizeOf96⟩ rfl) ?_
 refine Oy rfl (Yl.move rfl) ?_
 refine OW.nil ?_
 refine W.block ?_
 refine W.loopS (X := (Nat) × (Int)) (fun (x : (Nat) × (Int)) => match x with | (i, m) => (i ≤ l.length ∧ (m = manyR (l.take i) ∧ 0 ≤ m ∧ m ≤ 256 * (i : Int)) : Prop)) (fun (x : (Nat) × (Int)) => match x with | (i, m) => ([(8, .int .i64 (i : Int)), (3, .int .i64 m)] : Env)) (fun (x : (Nat) × (Int)) => match x with | (i, m) => ([] : List Res)) (fun (x : (Nat) × (Int)) => match x with | (i, m) => (l.length - i : Nat)) (0, 0) [(2, _), (6, _), (7, _)] (by exact ⟨Nat.zero_le _, rfl, by simp⟩) (Le.cons rfl (Le.cons rfl (Le.cons rfl (Le.cons rfl (Le.cons rfl (Le.nil _)))))) (by repeat constructor) ?_
 rintro ⟨i, m⟩ ⟨hi, hinv⟩
 show W _ _ _ _ _ _ ([(8, .int .i64 (i : Int)), (3, .int .i64 m)] ++ _) _ ([] ++ _)
 obtain ⟨i1, i2⟩ := hinv
 refine Wr ?_
 refine Oy rfl (Yl.lss rfl rfl) ?_
 refine OW.nil ?_
 refine W.seq ?_
 refine W.cond rfl (fun hq1 => ?_) (fun hq1 => ?_)
 ·have hq1d := of_decide_eq_true hq1
  obtain ⟨y, hy, hdr⟩ := drop_at (l := l) (i := i) (by omega)
  have hyA := runA_t (hall y (List.mem_of_getElem? hy)).1
  refine W.skip ?_
  refine W.seq ?_
  refine W.block ?_
  refine Wr ?_
  refine OW.fact (Sl.isSome (by repeat constructor) (by omega)) ?_
  rintro ⟨p1, hp1⟩; try dsimp only at hp1
  subst hp1
  refine Oy rfl (Yl.indexS i ⟨Tryz.underlying50, Tryz.sizeOf96⟩ rfl rfl rfl (by omega)) ?_
  refine Oy rfl (Yl.loadE ⟨Tryz.isAgg96, Tryz.sizeOf96⟩ rfl (by repeat constructor) (map_at hy)) ?_
  refine OW.alloc (Wn.plain rfl) rfl Tryz.zeroValue96 (by constructor) (fun b1 => ?_)
  refine OW.store (Wn.plain rfl) Tryz.sizeOf96 rfl rfl (by constructor) (by repeat constructor) rfl (by repeat constructor) (by repeat constructor) ?_
  refine OW.nil ?_
  refine W.region ?_
  refine Oy rfl (Yl.move rfl) ?_
  refine Oy rfl (Yl.fieldL 2 (fa_96_2) rfl rfl) ?_
  refine Oy rfl (Yl.load1 Tryz.isAgg3 rfl (by repeat constructor) (by repeat constructor)) ?_
  refine Oy rfl (Yl.add rfl rfl (by omega)) ?_
  refine Oy rfl (Yl.assign rfl) ?_
  refine OW.nil ?_
  refine W.region ?_
  refine Oy rfl (Yl.add rfl rfl (by omega)) ?_
  refine Oy rfl (Yl.move rfl) ?_
  refine OW.nil ?_
  refine ⟨(i + 1, m + y.Count), _, ⟨by omega, ?_⟩, (Le.cons rfl (Le.cons rfl (Le.cons rfl (Le.cons rfl (Le.cons rfl (Le.nil _)))))), rfl, by repeat constructor, by repeat constructor, by first | omega | (dsimp only; omega)⟩
  exact ⟨by rw [manyR_at hy, i1], by omega⟩
 ·have hq1d := of_decide_eq_false hq1
  rw [take_end (by omega)] at i1
  refine W.exit ?_
  refine Wr ?_
  refine Oy rfl (Yl.move rfl) ?_
  refine Oy rfl (Yl.assign rfl) ?_
  refine OW.nil ?_
  refine W.ret ?_
  refine Fin.mk (Rsl.one rfl rfl) ⟨?_, rfl⟩ (by repeat constructor) (by repeat constructor)
  rw [i1]
theorem c_rCount (l : List Rn) (a : Option Addr) (c : Nat) : FnV Tryz.prog 64 #[.slice a l.length c] [rowI 3 encR l a c] (.int .i64 (if risesM l then manyR l else 0)) := by
 refine FnC.go (m := 8) Tryz.func64 Tryz.ntmps64 rfl (Nat.le_of_ble_eq_true rfl) (fun Lf => ?_)
 refine Wr ?_
 refine Oy rfl (Yl.assign rfl) ?_
 refine OW.nil ?_
 refine W.seq ?_
 refine Wr ?_
 refine Oy rfl (Yl.move rfl) ?_
 refine OW.callv (Wn.plain rfl) rfl Tryz.call106 rfl (c_rises _ _ _) (by repeat constructor) ?_
 refine Oy rfl (Yl.not rfl) ?_
 refine OW.nil ?_
 refine W.cond rfl (fun hq1 => ?_) (fun hq1 => ?_)
 ·have hq1n := not_t hq1
  refine Wr ?_
  refine Oy rfl (Yl.assign rfl) ?_
  refine OW.nil ?_
  refine W.ret ?_
  refine Fin.mk (Rsl.one rfl rfl) ⟨?_, rfl⟩ (by repeat constructor) (by repeat constructor)
  first | (rw [if_pos (by simpa using hq1)]) | (rw [if_neg (by simpa using hq1)])
 ·have hq1n := not_f hq1
  have hr : risesM l = true := by simpa using hq1
  refine W.skip ?_
  refine Wr ?_
  refine Oy rfl (Yl.move rfl) ?_
  refine OW.callv (Wn.plain rfl) rfl Tryz.call107 rfl (c_rmany _ _ _ (by assumption)) (by repeat constructor) ?_
  refine Oy rfl (Yl.assign rfl) ?_
  refine OW.nil ?_
  refine W.ret ?_
  refine Fin.mk (Rsl.one rfl rfl) ⟨?_, rfl⟩ (by repeat constructor) (by repeat constructor)
  first | (rw [if_pos (by simpa using hq1)]) | (rw [if_neg (by simpa using hq1)])

def atV (l : List Rn) (i : Int) : Int := (atR l i).getD 0
def atE (l : List Rn) (i : Int) : Int := if (atR l i).isSome then 0 else 4
def rAtV (l : List Rn) (i : Int) : Int := if risesM l then (if i < 0 then 0 else atV l i) else 0
def rAtE (l : List Rn) (i : Int) : Int := if risesM l then (if i < 0 then 4 else atE l i) else 170
theorem rAt_n {l : List Rn} {i : Int} (h : risesM l = false) : rAtV l i = 0 ∧ rAtE l i = 170 := by simp [rAtV, rAtE, h]
theorem rAt_b {l : List Rn} {i : Int} (h : risesM l = true) (h2 : i < 0) : rAtV l i = 0 ∧ rAtE l i = 4 := by simp [rAtV, rAtE, h, h2]
theorem rAt_y {l : List Rn} {i v : Int} (h : risesM l = true) (h2 : ¬ i < 0) (h3 : atR l i = some v) : rAtV l i = v ∧ rAtE l i = 0 := by simp [rAtV, rAtE, h, h2, atV, atE, h3]
theorem rAt_o {l : List Rn} {i : Int} (h : risesM l = true) (h2 : ¬ i < 0) (h3 : atR l i = none) : rAtV l i = 0 ∧ rAtE l i = 4 := by simp [rAtV, rAtE, h, h2, atV, atE, h3]

theorem c_rAt (l : List Rn) (a : Option Addr) (c : Nat) (j : Int) (hj : j ≤ 9223372036854775807) : FnV Tryz.prog 170 #[.slice a l.length c, .int .i64 j] [rowI 3 encR l a c] (.tuple #[.int .i64 (rAtV l j), .int .i64 (rAtE l j)]) := by
 refine FnC.go (m := 35) Tryz.func170 Tryz.ntmps170 rfl (Nat.le_of_ble_eq_true rfl) (fun Lf => ?_)
 refine Wr ?_
 refine Oy rfl (Yl.assign rfl) ?_
 refine Oy rfl (Yl.assign rfl) ?_
 refine OW.nil ?_
 refine W.seq ?_
 refine Wr ?_
 refine Oy rfl (Yl.move rfl) ?_
 refine OW.callv (Wn.plain rfl) rfl Tryz.call106 rfl (c_rises _ _ _) (by repeat constructor) ?_
 refine Oy rfl (Yl.not rfl) ?_
 refine OW.nil ?_
 refine W.cond rfl (fun hq1 => ?_) (fun hq1 => ?_)
 ·have hq1n := not_t hq1
  obtain ⟨e1, e2⟩ := rAt_n (l := l) (i := j) (by simpa using hq1)
  refine Wr ?_
  refine Oy rfl (Yl.assign rfl) ?_
  refine Oy rfl (Yl.assign rfl) ?_
  refine OW.nil ?_
  refine W.ret ?_
  refine Fin.mk (Rsl.two rfl rfl rfl) ⟨?_, rfl⟩ (by repeat constructor) (by repeat constructor)
  rw [e1, e2]
 ·have hq1n := not_f hq1
  have hr : risesM l = true := by simpa using hq1
  obtain ⟨h1, h2, h3⟩ := risesM_t hr
  have hall := risesL_all h2
  refine W.skip ?_
  refine W.seq ?_
  refine Wr ?_
  refine Oy rfl (Yl.move rfl) ?_
  refine Oy rfl (Yl.lss rfl rfl) ?_
  refine OW.nil ?_
  refine W.cond rfl (fun hq2 => ?_) (fun hq2 => ?_)
  ·have hq2d := of_decide_eq_true hq2
   obtain ⟨e1, e2⟩ := rAt_b hr hq2d
   refine Wr ?_
   refine Oy rfl (Yl.assign rfl) ?_
   refine Oy rfl (Yl.assign rfl) ?_
   refine OW.nil ?_
   refine W.ret ?_
   refine Fin.mk (Rsl.two rfl rfl rfl) ⟨?_, rfl⟩ (by repeat constructor) (by repeat constructor)
   rw [e1, e2]
  ·have hq2d := of_decide_eq_false hq2
   refine W.skip ?_
   refine W.seq ?_
   refine Wr ?_
   refine Oy rfl (Yl.move rfl) ?_
   refine Oy rfl (Yl.len ⟨Tryz.underlying50, Tryz.sizeOf96⟩ rfl) ?_
   refine Oy rfl (Yl.move rfl) ?_
   refine OW.nil ?_
   refine W.block ?_
   refine W.loopS (X := (Nat) × (Int)) (fun (x : (Nat) × (Int)) => match x with | (i, k) => (i ≤ l.length ∧ (atR l j = atR (l.drop i) k ∧ 0 ≤ k ∧ k ≤ j) : Prop)) (fun (x : (Nat) × (Int)) => match x with | (i, k) => ([(15, .int .i64 (i : Int)), (1, .int .i64 k)] : Env)) (fun (x : (Nat) × (Int)) => match x with | (i, k) => ([] : List Res)) (fun (x : (Nat) × (Int)) => match x with | (i, k) => (l.length - i : Nat)) (0, j) [(13, _), (14, _)] (by exact ⟨Nat.zero_le _, rfl, by omega, by omega⟩) (Le.cons rfl (Le.cons rfl (Le.cons rfl (Le.cons rfl (Le.nil _))))) (by repeat constructor) ?_
   rintro ⟨i, k⟩ ⟨hi, hinv⟩
   show W _ _ _ _ _ _ ([(15, .int .i64 (i : Int)), (1, .int .i64 k)] ++ _) _ ([] ++ _)
   obtain ⟨i1, i2, i3⟩ := hinv
   refine Wr ?_
   refine Oy rfl (Yl.lss rfl rfl) ?_
   refine OW.nil ?_
   refine W.seq ?_
   refine W.cond rfl (fun hq3 => ?_) (fun hq3 => ?_)
   ·have hq3d := of_decide_eq_true hq3
    obtain ⟨y, hy, hdr⟩ := drop_at (l := l) (i := i) (by omega)
    rw [hdr] at i1
    have hyA := (hall y (List.mem_of_getElem? hy)).1
    have hyB := runA_t hyA
    refine W.skip ?_
    refine W.seq ?_
    refine W.block ?_
    refine Wr ?_
    refine OW.fact (Sl.isSome (by repeat constructor) (by omega)) ?_
    rintro ⟨p1, hp1⟩; try dsimp only at hp1
    subst hp1
    refine Oy rfl (Yl.indexS i ⟨Tryz.underlying50, Tryz.sizeOf96⟩ rfl rfl rfl (by omega)) ?_
    refine Oy rfl (Yl.loadE ⟨Tryz.isAgg96, Tryz.sizeOf96⟩ rfl (by repeat constructor) (map_at hy)) ?_
    refine OW.alloc (Wn.plain rfl) rfl Tryz.zeroValue96 (by constructor) (fun b1 => ?_)
    refine OW.store (Wn.plain rfl) Tryz.sizeOf96 rfl rfl (by constructor) (by repeat constructor) rfl (by repeat constructor) (by repeat constructor) ?_
    refine OW.nil ?_
    refine W.seq ?_
    refine Wr ?_
    refine Oy rfl (Yl.move rfl) ?_
    refine Oy rfl (Yl.fieldL 2 (fa_96_2) rfl rfl) ?_
    refine Oy rfl (Yl.load1 Tryz.isAgg3 rfl (by repeat constructor) (by repeat constructor)) ?_
    refine Oy rfl (Yl.lss rfl rfl) ?_
    refine OW.nil ?_
    refine W.cond rfl (fun hq4 => ?_) (fun hq4 => ?_)
    ·have hq4d := of_decide_eq_true hq4
     obtain ⟨e1, e2⟩ := rAt_y (v := y.From + y.Step * k) hr (by omega) (by rw [i1]; simp only [atR]; rw [if_pos (by omega)])
     have hm := runA_mul (k := k) hyA (by omega) (by omega)
     refine Wr ?_
     refine Oy rfl (Yl.fieldL 0 (fa_96_0) rfl rfl) ?_
     refine Oy rfl (Yl.load1 Tryz.isAgg2 rfl (by repeat constructor) (by repeat constructor)) ?_
     refine Oy rfl (Yl.fieldL 1 (fa_96_1) rfl rfl) ?_
     refine Oy rfl (Yl.load1 Tryz.isAgg2 rfl (by repeat constructor) (by repeat constructor)) ?_
     refine Oy rfl (Yl.move rfl) ?_
     refine Oy rfl (Yl.mul rfl rfl (by omega)) ?_
     refine Oy rfl (Yl.add rfl rfl (by omega)) ?_
     refine Oy rfl (Yl.assign rfl) ?_
     refine Oy rfl (Yl.assign rfl) ?_
     refine OW.nil ?_
     refine W.ret ?_
     refine Fin.mk (Rsl.two rfl rfl rfl) ⟨?_, rfl⟩ (by repeat constructor) (by repeat constructor)
     rw [e1, e2]
    ·have hq4d := of_decide_eq_false hq4
     refine W.skip ?_
     refine W.region ?_
     refine Oy rfl (Yl.move rfl) ?_
     refine Oy rfl (Yl.fieldL 2 (fa_96_2) rfl rfl) ?_
     refine Oy rfl (Yl.load1 Tryz.isAgg3 rfl (by repeat constructor) (by repeat constructor)) ?_
     refine Oy rfl (Yl.sub rfl rfl (by omega)) ?_
     refine Oy rfl (Yl.assign rfl) ?_
     refine OW.nil ?_
     refine W.region ?_
     refine Oy rfl (Yl.add rfl rfl (by omega)) ?_
     refine Oy rfl (Yl.move rfl) ?_
     refine OW.nil ?_
     refine ⟨(i + 1, k - y.Count), _, ⟨by omega, ?_⟩, (Le.cons rfl (Le.cons rfl (Le.cons rfl (Le.cons rfl (Le.nil _))))), rfl, by repeat constructor, by repeat constructor, by first | omega | (dsimp only; omega)⟩
     exact ⟨by rw [i1]; simp only [atR]; rw [if_neg (by omega)], by omega, by omega⟩
   ·have hq3d := of_decide_eq_false hq3
    rw [drop_end (by omega)] at i1
    obtain ⟨e1, e2⟩ := rAt_o (l := l) (i := j) hr (by omega) i1
    refine W.exit ?_
    refine Wr ?_
    refine Oy rfl (Yl.assign rfl) ?_
    refine Oy rfl (Yl.assign rfl) ?_
    refine OW.nil ?_
    refine W.ret ?_
    refine Fin.mk (Rsl.two rfl rfl rfl) ⟨?_, rfl⟩ (by repeat constructor) (by repeat constructor)
    rw [e1, e2]

def encRw (s : Rn × List Rn) (da : Option Addr) (m dc : Nat) : List Value := [.int .i64 s.1.From, .int .i64 s.1.Step, .int .i64 s.1.Count, .slice da m dc]
theorem takeR_1 {s : Rn × List Rn} {t : Int} (h : s.1.Count = 0) : takeR s t = (⟨t, 0, 1⟩, s.2) := by simp [takeR, h]
theorem takeR_2 {s : Rn × List Rn} {t : Int} (h : s.1.Count = 1) : takeR s t = (⟨s.1.From, t - s.1.From, 2⟩, s.2) := by simp [takeR, h]
theorem takeR_3 {s : Rn × List Rn} {t : Int} (h0 : ¬ s.1.Count = 0) (h1 : ¬ s.1.Count = 1) (h : t - lastR s.1 = s.1.Step) : takeR s t = (⟨s.1.From, s.1.Step, s.1.Count + 1⟩, s.2) := by unfold takeR; rw [if_neg h0, if_neg h1, if_pos h]
theorem takeR_4 {s : Rn × List Rn} {t : Int} (h0 : ¬ s.1.Count = 0) (h1 : ¬ s.1.Count = 1) (h : ¬ t - lastR s.1 = s.1.Step) : takeR s t = (⟨t, 0, 1⟩, s.2 ++ [s.1]) := by unfold takeR; rw [if_neg h0, if_neg h1, if_neg h]
def OpenOk (s : Rn × List Rn) : Prop := (s.1.Count = 0 ∨ (runA s.1 = true ∧ lastR s.1 ≤ 281474976710656)) ∧ s.2.length ≤ 256
theorem chkT_take : ∀ {ts : List Int} {last : Int} (i : Nat), chkT last ts = true → chkT last (ts.take i) = true
  | [], _, i, _ => by simp [chkT]
  | t :: ts, last, 0, _ => rfl
  | t :: ts, last, i + 1, h => by
    simp only [chkT, Bool.and_eq_true, List.take_succ_cons] at h ⊢
    exact ⟨h.1, h.2.1, chkT_take i h.2.2⟩
theorem row_prefix {ts : List Int} (h : timesOkM ts = true) (i : Nat) (hi : i ≤ ts.length) : OpenOk ((ts.take i).foldl takeR row0) := by
 simp only [timesOkM, Bool.and_eq_true, decide_eq_true_eq] at h
 obtain ⟨⟨hl, hu⟩, hc⟩ := h
 cases ts with
 | nil => simp at hl
 | cons t rest =>
  cases i with
  | zero => exact ⟨.inl rfl, by simp [row0]⟩
  | succ i =>
   simp only [chkT, Bool.and_eq_true, decide_eq_true_eq] at hc
   have h1 := row_fold (rest.take i) [t] (takeR row0 t) t (row_first t (by omega) hc.2.1) rfl (chkT_take i hc.2.2) (by simp at hu ⊢; omega)
   obtain ⟨i1, i2, i3, _⟩ := h1
   have hall := risesL_all i1
   have hlen := (manyR_pos fun r hr => (hall r hr).1).1
   rw [i3] at hlen
   refine ⟨.inr (hall _ (by simp)), ?_⟩
   simp only [List.take_succ_cons, List.foldl_cons]
   simp only [List.length_append, List.length_cons, List.length_nil, List.length_take] at hlen hu ⊢
   omega
theorem chkT_all : ∀ {ts : List Int} {last : Int}, chkT last ts = true → ∀ t ∈ ts, last < t ∧ t ≤ 281474976710656
  | [], _, _, t, ht => by cases ht
  | x :: ts, last, h, t, ht => by
    simp only [chkT, Bool.and_eq_true, decide_eq_true_eq] at h
    rcases List.mem_cons.1 ht with rfl | ht
    · exact ⟨h.1, h.2.1⟩
    · have := chkT_all h.2.2 t ht; omega
theorem times_all {ts : List Int} (h : timesOkM ts = true) : ∀ t ∈ ts, 0 ≤ t ∧ t ≤ 281474976710656 := fun t ht => by
  simp only [timesOkM, Bool.and_eq_true, decide_eq_true_eq] at h
  have := chkT_all h.2 t ht; omega

theorem c_rtake (s : Rn × List Rn) (t : Int) (da : Option Addr) (dc p : Nat) (ht : 0 ≤ t ∧ t ≤ 281474976710656) (hs : OpenOk s) : FnC Tryz.prog 214 #[.pointer (some ⟨p, 0, none⟩), .int .i64 t] [.cell p (encRw s da s.2.length dc) 298, rowR 96 3 encR s.2 da dc] (fun v L' => v = .tuple #[] ∧ ∃ da' dc', L' = [.cell p (encRw (takeR s t) da' (takeR s t).2.length dc') 298, rowR 96 3 encR (takeR s t).2 da' dc']) := by
 refine FnC.go (m := 92) Tryz.func214 Tryz.ntmps214 rfl (Nat.le_of_ble_eq_true rfl) (fun Lf => ?_)
 obtain ⟨hs1, hs2⟩ := hs
 refine W.block ?_
 refine Wr ?_
 refine Oy rfl (Yl.move rfl) ?_
 refine Oy rfl (Yl.nilCheck rfl) ?_
 refine Oy rfl (Yl.fieldL 0 (fa_298_0) rfl rfl) ?_
 refine Oy rfl (Yl.fieldL 0 (fa_296_0) rfl rfl) ?_
 refine Oy rfl (Yl.fieldL 2 (fa_96_2) rfl rfl) ?_
 refine Oy rfl (Yl.load1 Tryz.isAgg3 rfl (by repeat constructor) (by repeat constructor)) ?_
 refine Oy rfl (Yl.eql rfl rfl) ?_
 refine Oy rfl (Yl.assign rfl) ?_
 refine OW.nil ?_
 refine W.cond rfl (fun hq1 => ?_) (fun hq1 => ?_)
 ·have hq1d := of_decide_eq_true hq1
  refine W.region ?_
  refine Oy rfl (Yl.move rfl) ?_
  refine Oy rfl (Yl.move rfl) ?_
  refine Oy rfl (Yl.build (is := [0, 2]) (xs := [.tmp 33, .const (.int .i64 1)]) st_96 rfl rfl (by repeat constructor)) ?_
  refine Oy rfl (Yl.nilCheck rfl) ?_
  refine Oy rfl (Yl.fieldL 0 (fa_298_0) rfl rfl) ?_
  refine Oy rfl (Yl.fieldL 0 (fa_296_0) rfl rfl) ?_
  refine OW.store (Wn.plain rfl) Tryz.sizeOf96 rfl rfl (by constructor) (by repeat constructor) rfl (by repeat constructor) (by repeat constructor) ?_
  refine OW.nil ?_
  first | rw [takeR_1 (by omega)] | rw [takeR_2 (by omega)] | rw [takeR_3 (by omega) (by omega) (by omega)] | rw [takeR_4 (by omega) (by omega) (by omega)]
  exact Fin.mk (Rsl.none rfl) ⟨rfl, _, _, rfl⟩ (by repeat constructor) (by repeat constructor)
 ·have hq1d := of_decide_eq_false hq1
  have hA : runA s.1 = true ∧ lastR s.1 ≤ 281474976710656 := by rcases hs1 with h | h; exact absurd h hq1d; exact h
  have hB := runA_t hA.1
  have hC := lastR_in hA.1
  have hD := hA.1
  refine Wr ?_
  refine Oy rfl (Yl.move rfl) ?_
  refine Oy rfl (Yl.nilCheck rfl) ?_
  refine Oy rfl (Yl.fieldL 0 (fa_298_0) rfl rfl) ?_
  refine Oy rfl (Yl.fieldL 0 (fa_296_0) rfl rfl) ?_
  refine Oy rfl (Yl.fieldL 2 (fa_96_2) rfl rfl) ?_
  refine Oy rfl (Yl.load1 Tryz.isAgg3 rfl (by repeat constructor) (by repeat constructor)) ?_
  refine Oy rfl (Yl.eql rfl rfl) ?_
  refine Oy rfl (Yl.assign rfl) ?_
  refine OW.nil ?_
  refine W.cond rfl (fun hq2 => ?_) (fun hq2 => ?_)
  ·have hq2d := of_decide_eq_true hq2
   refine W.draw mixed ?_
   refine Aq (i := 0) rfl (Wn.plain rfl) rfl (fun _ => Yl.move rfl) ?_
   refine Aq (i := 1) rfl (Wn.plain rfl) rfl (fun _ => Yl.move rfl) ?_
   refine Aq (i := 2) rfl (Wn.plain rfl) rfl (fun _ => Yl.nilCheck rfl) ?_
   refine Aq (i := 3) rfl (Wn.plain rfl) rfl (fun _ => Yl.fieldL 0 (fa_298_0) rfl rfl) ?_
   refine Aq (i := 4) rfl (Wn.plain rfl) rfl (fun _ => Yl.fieldL 0 (fa_296_0) rfl rfl) ?_
   refine Aq (i := 5) rfl (Wn.plain rfl) rfl (fun _ => Yl.fieldL 0 (fa_96_0) rfl rfl) ?_
   refine Al (i := 6) rfl (Wn.plain rfl) rfl (by repeat constructor) (Yl.load1 Tryz.isAgg2 rfl .head (by repeat constructor)) ?_
   refine Aq (i := 7) rfl (Wn.plain rfl) rfl (fun _ => Yl.move rfl) ?_
   refine Aq (i := 8) rfl (Wn.plain rfl) rfl (fun _ => Yl.move rfl) ?_
   refine Aq (i := 9) rfl (Wn.plain rfl) rfl (fun _ => Yl.nilCheck rfl) ?_
   refine Aq (i := 10) rfl (Wn.plain rfl) rfl (fun _ => Yl.fieldL 0 (fa_298_0) rfl rfl) ?_
   refine Aq (i := 11) rfl (Wn.plain rfl) rfl (fun _ => Yl.fieldL 0 (fa_296_0) rfl rfl) ?_
   refine Aq (i := 12) rfl (Wn.plain rfl) rfl (fun _ => Yl.fieldL 0 (fa_96_0) rfl rfl) ?_
   refine Al (i := 13) rfl (Wn.plain rfl) rfl (by repeat constructor) (Yl.load1 Tryz.isAgg2 rfl .head (by repeat constructor)) ?_
   refine Aq (i := 14) rfl (Wn.plain rfl) rfl (fun _ => Yl.sub rfl rfl (by omega)) ?_
   refine Aq (i := 15) rfl (Wn.plain rfl) rfl (fun _ => Yl.build (is := [0, 1, 2]) (xs := [.tmp 52, .tmp 60, .const (.int .i64 2)]) st_96 rfl rfl (by repeat constructor)) ?_
   refine Aq (i := 16) rfl (Wn.plain rfl) rfl (fun _ => Yl.nilCheck rfl) ?_
   refine Aq (i := 17) rfl (Wn.plain rfl) rfl (fun _ => Yl.fieldL 0 (fa_298_0) rfl rfl) ?_
   refine Aq (i := 18) rfl (Wn.plain rfl) rfl (fun _ => Yl.fieldL 0 (fa_296_0) rfl rfl) ?_
   refine AW.step (i := 19) rfl (by kernel_rfl) (Wn.plain rfl) rfl (Ex.store Tryz.sizeOf96 rfl rfl (by constructor) (by repeat constructor) rfl (by repeat constructor) (by repeat constructor)) (.drop (by kernel_rfl) (.drop (by kernel_rfl) .nil)) ?_
   rintro _ _ rfl; refine ⟨by repeat constructor, ?_⟩
   refine AW.done (by kernel_rfl) ?_
   first | rw [takeR_1 (by omega)] | rw [takeR_2 (by omega)] | rw [takeR_3 (by omega) (by omega) (by omega)] | rw [takeR_4 (by omega) (by omega) (by omega)]
   exact Fin.mk (Rsl.none rfl) ⟨rfl, _, _, rfl⟩ (by repeat constructor) (by repeat constructor)
  ·have hq2d := of_decide_eq_false hq2
   refine W.seq ?_
   refine W.draw mixed ?_
   refine Aq (i := 0) rfl (Wn.plain rfl) rfl (fun _ => Yl.move rfl) ?_
   refine Aq (i := 1) rfl (Wn.plain rfl) rfl (fun _ => Yl.move rfl) ?_
   refine Aq (i := 2) rfl (Wn.plain rfl) rfl (fun _ => Yl.nilCheck rfl) ?_
   refine Aq (i := 3) rfl (Wn.plain rfl) rfl (fun _ => Yl.fieldL 0 (fa_298_0) rfl rfl) ?_
   refine Aq (i := 4) rfl (Wn.plain rfl) rfl (fun _ => Yl.fieldL 0 (fa_296_0) rfl rfl) ?_
   refine Al (i := 5) rfl (Wn.plain rfl) rfl (by repeat constructor) (Yl.load ⟨Tryz.isAgg96, Tryz.sizeOf96⟩ rfl .head (by repeat constructor)) ?_
   refine Aq (i := 8) rfl (Wn.plain rfl) rfl (fun _ => Yl.move rfl) ?_
   refine Aq (i := 9) rfl (Wn.plain rfl) rfl (fun _ => Yl.nilCheck rfl) ?_
   refine Aq (i := 10) rfl (Wn.plain rfl) rfl (fun _ => Yl.fieldL 0 (fa_298_0) rfl rfl) ?_
   refine Aq (i := 11) rfl (Wn.plain rfl) rfl (fun _ => Yl.fieldL 0 (fa_296_0) rfl rfl) ?_
   refine Aq (i := 12) rfl (Wn.plain rfl) rfl (fun _ => Yl.fieldL 1 (fa_96_1) rfl rfl) ?_
   refine Al (i := 13) rfl (Wn.plain rfl) rfl (by repeat constructor) (Yl.load1 Tryz.isAgg2 rfl .head (by repeat constructor)) ?_
   refine AW.step (i := 6) rfl (by kernel_rfl) (Wn.plain rfl) rfl (Ex.call rfl rfl rfl (FnC.tri0 Tryz.call152 (c_rlast _ (by assumption))) (by repeat constructor)) (.keep (by kernel_rfl) (.drop (by kernel_rfl) .nil)) ?_
   rintro _ _ ⟨_, ⟨rfl, rfl⟩, rfl⟩; refine ⟨by repeat constructor, ?_⟩
   refine Aq (i := 7) rfl (Wn.plain rfl) rfl (fun _ => Yl.sub rfl rfl (by omega)) ?_
   refine Aq (i := 14) rfl (Wn.plain rfl) rfl (fun _ => Yl.eql rfl rfl) ?_
   refine Aq (i := 15) rfl (Wn.plain rfl) rfl (fun _ => Yl.assign rfl) ?_
   refine AW.done (by kernel_rfl) ?_
   refine W.cond rfl (fun hq3 => ?_) (fun hq3 => ?_)
   ·have hq3d := of_decide_eq_true hq3
    refine W.region ?_
    refine Oy rfl (Yl.move rfl) ?_
    refine Oy rfl (Yl.nilCheck rfl) ?_
    refine Oy rfl (Yl.fieldL 0 (fa_298_0) rfl rfl) ?_
    refine Oy rfl (Yl.fieldL 0 (fa_296_0) rfl rfl) ?_
    refine Oy rfl (Yl.fieldL 2 (fa_96_2) rfl rfl) ?_
    refine Oy rfl (Yl.load1 Tryz.isAgg3 rfl (by repeat constructor) (by repeat constructor)) ?_
    refine Oy rfl (Yl.add rfl rfl (by omega)) ?_
    refine Oy rfl (Yl.nilCheck rfl) ?_
    refine Oy rfl (Yl.fieldL 0 (fa_298_0) rfl rfl) ?_
    refine Oy rfl (Yl.fieldL 0 (fa_296_0) rfl rfl) ?_
    refine Oy rfl (Yl.fieldL 2 (fa_96_2) rfl rfl) ?_
    refine OW.store (Wn.plain rfl) Tryz.sizeOf3 rfl rfl (by constructor) (by repeat constructor) rfl (by repeat constructor) (by repeat constructor) ?_
    refine OW.nil ?_
    first | rw [takeR_1 (by omega)] | rw [takeR_2 (by omega)] | rw [takeR_3 (by omega) (by omega) (by omega)] | rw [takeR_4 (by omega) (by omega) (by omega)]
    exact Fin.mk (Rsl.none rfl) ⟨rfl, _, _, rfl⟩ (by repeat constructor) (by repeat constructor)
   ·have hq3d := of_decide_eq_false hq3
    refine W.seq ?_
    refine W.draw mixed ?_
    refine Aq (i := 0) rfl (Wn.plain rfl) rfl (fun _ => Yl.move rfl) ?_
    refine Aq (i := 1) rfl (Wn.plain rfl) rfl (fun _ => Yl.move rfl) ?_
    refine Aq (i := 2) rfl (Wn.plain rfl) rfl (fun _ => Yl.nilCheck rfl) ?_
    refine Aq (i := 3) rfl (Wn.plain rfl) rfl (fun _ => Yl.fieldL 3 (fa_298_1) rfl rfl) ?_
    refine Al (i := 4) rfl (Wn.plain rfl) rfl (by repeat constructor) (Yl.load1 Tryz.isAgg50 rfl .head (by repeat constructor)) ?_
    refine Aq (i := 5) rfl (Wn.plain rfl) rfl (fun _ => Yl.move rfl) ?_
    refine Aq (i := 6) rfl (Wn.plain rfl) rfl (fun _ => Yl.nilCheck rfl) ?_
    refine Aq (i := 7) rfl (Wn.plain rfl) rfl (fun _ => Yl.fieldL 0 (fa_298_0) rfl rfl) ?_
    refine Aq (i := 8) rfl (Wn.plain rfl) rfl (fun _ => Yl.fieldL 0 (fa_296_0) rfl rfl) ?_
    refine Al (i := 9) rfl (Wn.plain rfl) rfl (by repeat constructor) (Yl.load ⟨Tryz.isAgg96, Tryz.sizeOf96⟩ rfl .head (by repeat constructor)) ?_
    refine AW.step (i := 10) rfl (by kernel_rfl) (Wn.plain rfl) rfl (Ex.lit (is := [0]) (xs := [.tmp 13]) rw_50 rfl rfl rfl (by decide) (by repeat constructor)) (.drop (by kernel_rfl) (.keep (by kernel_rfl) .nil)) ?_
    rintro _ _ ⟨b1, rfl, rfl⟩; refine ⟨by repeat constructor, ?_⟩
    refine AW.step (i := 11) rfl (by kernel_rfl) (Wn.plain rfl) rfl (Ex.push (f := encR) (y := s.1) rw_50 rfl rfl (by repeat constructor) ⟨_, by repeat constructor⟩ (by rfl) (by rfl) (by repeat constructor) (by omega) (by omega)) (.drop (by kernel_rfl) .nil) ?_
    rintro _ _ ⟨a1, c1, rfl, rfl⟩; refine ⟨by repeat constructor, ?_⟩
    refine Aq (i := 12) rfl (Wn.plain rfl) rfl (fun _ => Yl.nilCheck rfl) ?_
    refine Aq (i := 13) rfl (Wn.plain rfl) rfl (fun _ => Yl.fieldL 3 (fa_298_1) rfl rfl) ?_
    refine AW.step (i := 14) rfl (by kernel_rfl) (Wn.plain rfl) rfl (Ex.store Tryz.sizeOf50 rfl rfl (by constructor) (by repeat constructor) rfl (by repeat constructor) (by repeat constructor)) .nil ?_
    rintro _ _ rfl; refine ⟨by repeat constructor, ?_⟩
    refine AW.done (by kernel_rfl) ?_
    refine W.region ?_
    refine Oy rfl (Yl.move rfl) ?_
    refine Oy rfl (Yl.move rfl) ?_
    refine Oy rfl (Yl.build (is := [0, 2]) (xs := [.tmp 19, .const (.int .i64 1)]) st_96 rfl rfl (by repeat constructor)) ?_
    refine Oy rfl (Yl.nilCheck rfl) ?_
    refine Oy rfl (Yl.fieldL 0 (fa_298_0) rfl rfl) ?_
    refine Oy rfl (Yl.fieldL 0 (fa_296_0) rfl rfl) ?_
    refine OW.store (Wn.plain rfl) Tryz.sizeOf96 rfl rfl (by constructor) (by repeat constructor) rfl (by repeat constructor) (by repeat constructor) ?_
    refine OW.nil ?_
    first | rw [takeR_1 (by omega)] | rw [takeR_2 (by omega)] | rw [takeR_3 (by omega) (by omega) (by omega)] | rw [takeR_4 (by omega) (by omega) (by omega)]
    exact Fin.mk (Rsl.none rfl) ⟨rfl, _, _, rfl⟩ (by repeat constructor) (by repeat constructor)
theorem c_rOf1 (s : Rn × List Rn) (t : Int) (da : Option Addr) (dc p : Nat) (ht : 0 ≤ t ∧ t ≤ 281474976710656) (hs : OpenOk s) : FnC Tryz.prog 195 #[.int .i64 t, .func (.func 214) #[.pointer (some ⟨p, 0, none⟩)] #[]] [.cell p (encRw s da (s).2.length dc) 298, rowR 96 3 encR (s).2 da dc] (fun v L' => v = .tuple #[] ∧ ∃ da' dc', L' = [.cell p (encRw (takeR s t) da' (takeR s t).2.length dc') 298, rowR 96 3 encR (takeR s t).2 da' dc']) := by
 refine FnC.go (m := 7) Tryz.func195 Tryz.ntmps195 rfl (Nat.le_of_ble_eq_true rfl) (fun Lf => ?_)
 refine W.region ?_
 refine Oy rfl (Yl.move rfl) ?_
 refine Oy rfl (Yl.move rfl) ?_
 refine OW.call (Wn.plain rfl) rfl rfl rfl (FnC.triC Tryz.call214 (c_rtake s t da dc p ht hs)) (by repeat constructor) ?_
 rintro _ _ ⟨rfl, da', dc', rfl⟩
 refine OW.nil ?_
 exact Fin.mk (Rsl.none rfl) ⟨rfl, _, _, rfl⟩ (by repeat constructor) (by repeat constructor)

theorem timesOk_len {ts : List Int} (h : timesOkM ts = true) : ts.length ≤ 256 := by
 simp only [timesOkM, Bool.and_eq_true, decide_eq_true_eq] at h; omega
theorem row_foldstep {ts : List Int} {i : Nat} {t : Int} (h : ts[i]? = some t) : (ts.take (i + 1)).foldl takeR row0 = takeR ((ts.take i).foldl takeR row0) t := by rw [take_at h, List.foldl_append]; rfl

theorem c_rlaid (l : List Int) (a : Option Addr) (c : Nat) (hl : timesOkM l = true) : FnC Tryz.prog 194 #[.slice a l.length c, .func (.func 195) #[] #[]] [rowI 1 encI l a c] (RetRow 3 encR (laidM l)) := by
 refine FnC.go (m := 28) Tryz.func194 Tryz.ntmps194 rfl (Nat.le_of_ble_eq_true rfl) (fun Lf => ?_)
 have hlen := timesOk_len hl
 refine Wr ?_
 refine Oy rfl (Yl.assign rfl) ?_
 refine OW.nil ?_
 refine Wr ?_
 refine OW.alloc (Wn.plain rfl) rfl Tryz.zeroValue298 (by constructor) (fun b1 => ?_)
 refine OW.nil ?_
 refine Wr ?_
 refine Oy rfl (Yl.makeFunc rfl rfl) ?_
 refine Oy rfl (Yl.assign rfl) ?_
 refine OW.nil ?_
 refine W.seq ?_
 refine Wr ?_
 refine Oy rfl (Yl.move rfl) ?_
 refine Oy rfl (Yl.len ⟨Tryz.underlying51, Tryz.sizeOf2⟩ rfl) ?_
 refine Oy rfl (Yl.move rfl) ?_
 refine OW.nil ?_
 refine W.block ?_
 refine W.ent (Ent.new_arr 96 3) ?_
 refine W.loopS (X := (Nat) × (Rn × List Rn) × (Option Addr) × (Nat)) (fun (x : (Nat) × (Rn × List Rn) × (Option Addr) × (Nat)) => match x with | (i, s, da, dc) => (i ≤ l.length ∧ (s = (l.take i).foldl takeR row0) : Prop)) (fun (x : (Nat) × (Rn × List Rn) × (Option Addr) × (Nat)) => match x with | (i, s, da, dc) => ([(12, .int .i64 (i : Int))] : Env)) (fun (x : (Nat) × (Rn × List Rn) × (Option Addr) × (Nat)) => match x with | (i, s, da, dc) => ([.cell b1 (encRw s da s.2.length dc) 298, rowR 96 3 encR s.2 da dc] : List Res)) (fun (x : (Nat) × (Rn × List Rn) × (Option Addr) × (Nat)) => match x with | (i, s, da, dc) => (l.length - i : Nat)) (0, row0, none, 0) [(1, _), (4, _), (5, _), (6, _), (10, _), (11, _)] (by exact ⟨Nat.zero_le _, rfl⟩) (Le.cons rfl (Le.cons rfl (Le.cons rfl (Le.cons rfl (Le.cons rfl (Le.cons rfl (Le.cons rfl (Le.nil _)))))))) (by repeat constructor) ?_
 rintro ⟨i, s, da, dc⟩ ⟨hi, hinv⟩
 show W _ _ _ _ _ _ ([(12, .int .i64 (i : Int))] ++ _) _ ([.cell b1 (encRw s da s.2.length dc) 298, rowR 96 3 encR s.2 da dc] ++ _)
 refine Wr ?_
 refine Oy rfl (Yl.lss rfl rfl) ?_
 refine OW.nil ?_
 refine W.seq ?_
 refine W.cond rfl (fun hq1 => ?_) (fun hq1 => ?_)
 ·have hq1d := of_decide_eq_true hq1
  obtain ⟨y, hy, hdr⟩ := drop_at (l := l) (i := i) (by omega)
  have hty := times_all hl y (List.mem_of_getElem? hy)
  have hso : OpenOk s := by rw [hinv]; exact row_prefix hl i (by omega)
  refine W.skip ?_
  refine W.seq ?_
  refine W.block ?_
  refine Wr ?_
  refine OW.fact (Sl.isSome (by repeat constructor) (by omega)) ?_
  rintro ⟨p1, hp1⟩; try dsimp only at hp1
  subst hp1
  refine Oy rfl (Yl.indexS i ⟨Tryz.underlying51, Tryz.sizeOf2⟩ rfl rfl rfl (by omega)) ?_
  refine Oy rfl (Yl.loadS0 Tryz.isAgg2 rfl (by repeat constructor) (map_at hy) (by repeat constructor)) ?_
  refine Oy rfl (Yl.assign rfl) ?_
  refine OW.nil ?_
  refine W.region ?_
  refine Oy rfl (Yl.move rfl) ?_
  refine Oy rfl (Yl.move rfl) ?_
  refine Oy rfl (Yl.move rfl) ?_
  refine OW.call (Wn.plain rfl) rfl rfl rfl (FnC.triC Tryz.call195 (c_rOf1 s y da dc _ hty hso)) (by repeat constructor) ?_
  rintro _ _ ⟨rfl, da', dc', rfl⟩
  refine OW.nil ?_
  refine W.region ?_
  refine Oy rfl (Yl.add rfl rfl (by omega)) ?_
  refine Oy rfl (Yl.move rfl) ?_
  refine OW.nil ?_
  refine ⟨(i + 1, takeR s y, _, _), _, ⟨by omega, ?_⟩, (Le.cons rfl (Le.cons rfl (Le.cons rfl (Le.cons rfl (Le.cons rfl (Le.cons rfl (Le.cons rfl (Le.nil _)))))))), rfl, by repeat constructor, by repeat constructor, by first | omega | (dsimp only; omega)⟩
  rw [row_foldstep hy, hinv]
 ·have hq1d := of_decide_eq_false hq1
  rw [take_end (by omega)] at hinv
  have hso : OpenOk s := by rw [hinv]; have := row_prefix hl l.length (Nat.le_refl _); rwa [List.take_length] at this
  have hso2 := hso.2
  refine W.exit ?_
  refine Wr ?_
  refine Oy rfl (Yl.fieldL 3 (fa_298_1) rfl rfl) ?_
  refine Oy rfl (Yl.load1 Tryz.isAgg50 rfl (by repeat constructor) (by repeat constructor)) ?_
  refine Oy rfl (Yl.fieldL 0 (fa_298_0) rfl rfl) ?_
  refine Oy rfl (Yl.fieldL 0 (fa_296_0) rfl rfl) ?_
  refine Oy rfl (Yl.load ⟨Tryz.isAgg96, Tryz.sizeOf96⟩ rfl (by repeat constructor) (by repeat constructor)) ?_
  refine OW.lit (is := [0]) (xs := [.tmp 25]) (Wn.plain rfl) rfl rw_50 rfl rfl rfl (by decide) (by repeat constructor) (fun b2 => ?_)
  refine OW.push (f := encR) (y := s.1) (Wn.plain rfl) rfl rw_50 rfl rfl (by repeat constructor) ⟨_, by repeat constructor⟩ (by rfl) (by rfl) (by repeat constructor) (by omega) (by omega) (fun a1 c1 => ?_)
  refine Oy rfl (Yl.assign rfl) ?_
  refine OW.nil ?_
  refine W.ret ?_
  rw [show laidM l = s.2 ++ [s.1] from by rw [hinv]; rfl]
  refine Fin.ent (Ent.sealP (f := encR) (E := 96) (sz := 3) (by repeat constructor) (fun _ => rfl)) ?_
  exact Fin.mk (Rsl.one rfl rfl) ⟨_, _, rfl, rfl⟩ (by repeat constructor) (by repeat constructor)

def prevT (l : List Int) : Nat → Int
  | 0 => -1
  | i + 1 => (l[i]?).getD (-1)
theorem prevT_pos {l : List Int} {i : Nat} {z : Int} (h : 0 < i) (hz : l[i - 1]? = some z) : prevT l i = z := by
 cases i with
 | zero => omega
 | succ i => simp only [Nat.add_sub_cancel] at hz; simp [prevT, hz]
theorem timesOk_n {l : List Int} (h : ¬ (1 ≤ l.length ∧ l.length ≤ 256)) : timesOkM l = false := by simp only [timesOkM, h, decide_false, Bool.false_and]
theorem timesOk_f {l : List Int} (h : chkT (-1) l = false) : timesOkM l = false := by simp [timesOkM, h]
theorem timesOk_t {l : List Int} (h : 1 ≤ l.length ∧ l.length ≤ 256) (h2 : chkT (-1) l = true) : timesOkM l = true := by simp [timesOkM, h, h2]
theorem chkT_f {p t : Int} {ts : List Int} (h : ¬ (p < t ∧ t ≤ 281474976710656)) : chkT p (t :: ts) = false := by
 simp only [chkT]
 by_cases h1 : p < t
 ·rw [decide_eq_false (p := t ≤ 281474976710656) (by omega), Bool.false_and, Bool.and_false]
 ·rw [decide_eq_false h1, Bool.false_and]
theorem chkT_y {p t : Int} {ts : List Int} (h : p < t ∧ t ≤ 281474976710656) : chkT p (t :: ts) = chkT t ts := by simp only [chkT, decide_eq_true h.1, decide_eq_true h.2, Bool.true_and]

theorem c_rOf (l : List Int) (a : Option Addr) (c : Nat) : FnC Tryz.prog 123 #[.slice a l.length c] [rowI 1 encI l a c] (fun v L' => (timesOkM l = false ∧ v = .tuple #[.slice none 0 0, .int .i64 2] ∧ L' = []) ∨ (timesOkM l = true ∧ ∃ a' c', v = .tuple #[.slice a' (laidM l).length c', .int .i64 0] ∧ L' = [rowI 3 encR (laidM l) a' c'])) := by
 refine FnC.go (m := 43) Tryz.func123 Tryz.ntmps123 rfl (Nat.le_of_ble_eq_true rfl) (fun Lf => ?_)
 refine Wr ?_
 refine Oy rfl (Yl.assign rfl) ?_
 refine Oy rfl (Yl.assign rfl) ?_
 refine OW.nil ?_
 refine W.seq ?_
 refine Wr ?_
 refine Oy rfl (Yl.move rfl) ?_
 refine Oy rfl (Yl.len ⟨Tryz.underlying51, Tryz.sizeOf2⟩ rfl) ?_
 refine Oy rfl (Yl.eql rfl rfl) ?_
 refine Oy rfl (Yl.move rfl) ?_
 refine OW.split (t := 9) rfl (fun hq1 => ?_) (fun hq1 => ?_)
 ·have hq1d := of_decide_eq_true hq1
  refine OW.not (Wn.not rfl rfl rfl hq1) rfl ?_
  refine OW.not (Wn.not rfl rfl rfl hq1) rfl ?_
  refine OW.not (Wn.not rfl rfl rfl hq1) rfl ?_
  refine Oy rfl (Yl.pick_true rfl hq1 rfl) ?_
  refine OW.nil ?_
  refine W.cond_true rfl ?_
  refine Wr ?_
  refine Oy rfl (Yl.assign rfl) ?_
  refine Oy rfl (Yl.assign rfl) ?_
  refine OW.nil ?_
  refine W.ret ?_
  first | exact Fin.mk (Rsl.two rfl rfl rfl) (.inr ⟨hok, _, _, rfl, rfl⟩) (by repeat constructor) (by repeat constructor) | exact Fin.mk (Rsl.two rfl rfl rfl) (.inl ⟨timesOk_n (by omega), rfl, rfl⟩) (by repeat constructor) (by repeat constructor) | exact Fin.mk (Rsl.two rfl rfl rfl) (.inl ⟨timesOk_f (by rw [i1]; exact chkT_f (by omega)), rfl, rfl⟩) (by repeat constructor) (by repeat constructor)
 ·have hq1d := of_decide_eq_false hq1
  refine OW.yl (Wn.run rfl rfl rfl hq1) rfl (Yl.move rfl) ?_
  refine OW.yl (Wn.run rfl rfl rfl hq1) rfl (Yl.len ⟨Tryz.underlying51, Tryz.sizeOf2⟩ rfl) ?_
  refine OW.yl (Wn.run rfl rfl rfl hq1) rfl (Yl.gtr rfl rfl) ?_
  refine Oy rfl (Yl.pick_false rfl hq1 rfl) ?_
  refine OW.nil ?_
  refine W.cond rfl (fun hq2 => ?_) (fun hq2 => ?_)
  ·have hq2d := of_decide_eq_true hq2
   refine Wr ?_
   refine Oy rfl (Yl.assign rfl) ?_
   refine Oy rfl (Yl.assign rfl) ?_
   refine OW.nil ?_
   refine W.ret ?_
   first | exact Fin.mk (Rsl.two rfl rfl rfl) (.inr ⟨hok, _, _, rfl, rfl⟩) (by repeat constructor) (by repeat constructor) | exact Fin.mk (Rsl.two rfl rfl rfl) (.inl ⟨timesOk_n (by omega), rfl, rfl⟩) (by repeat constructor) (by repeat constructor) | exact Fin.mk (Rsl.two rfl rfl rfl) (.inl ⟨timesOk_f (by rw [i1]; exact chkT_f (by omega)), rfl, rfl⟩) (by repeat constructor) (by repeat constructor)
  ·have hq2d := of_decide_eq_false hq2
   refine W.skip ?_
   refine W.seq ?_
   refine Wr ?_
   refine Oy rfl (Yl.move rfl) ?_
   refine Oy rfl (Yl.len ⟨Tryz.underlying51, Tryz.sizeOf2⟩ rfl) ?_
   refine Oy rfl (Yl.move rfl) ?_
   refine OW.nil ?_
   refine W.block ?_
   refine W.loopS (X := (Nat)) (fun (i : (Nat)) => (i ≤ l.length ∧ (chkT (-1) l = chkT (prevT l i) (l.drop i) ∧ -1 ≤ prevT l i) : Prop)) (fun (i : (Nat)) => ([(16, .int .i64 (i : Int))] : Env)) (fun (i : (Nat)) => ([] : List Res)) (fun (i : (Nat)) => (l.length - i : Nat)) 0 [(0, _), (14, _), (15, _)] (by exact ⟨Nat.zero_le _, rfl, by simp [prevT]⟩) (Le.cons rfl (Le.cons rfl (Le.cons rfl (Le.cons rfl (Le.nil _))))) (by repeat constructor) ?_
   rintro i ⟨hi, hinv⟩
   show W _ _ _ _ _ _ ([(16, .int .i64 (i : Int))] ++ _) _ ([] ++ _)
   obtain ⟨i1, i2⟩ := hinv
   refine Wr ?_
   refine Oy rfl (Yl.lss rfl rfl) ?_
   refine OW.nil ?_
   refine W.seq ?_
   refine W.cond rfl (fun hq3 => ?_) (fun hq3 => ?_)
   ·have hq3d := of_decide_eq_true hq3
    obtain ⟨y, hy, hdr⟩ := drop_at (l := l) (i := i) (by omega)
    rw [hdr] at i1
    refine W.skip ?_
    refine W.seq ?_
    refine W.block ?_
    refine Wr ?_
    refine Oy rfl (Yl.move rfl) ?_
    refine OW.fact (Sl.isSome (by repeat constructor) (by omega)) ?_
    rintro ⟨p1, hp1⟩; try dsimp only at hp1
    subst hp1
    refine Oy rfl (Yl.indexS i ⟨Tryz.underlying51, Tryz.sizeOf2⟩ rfl rfl rfl (by omega)) ?_
    refine Oy rfl (Yl.loadS0 Tryz.isAgg2 rfl (by repeat constructor) (map_at hy) (by repeat constructor)) ?_
    refine Oy rfl (Yl.assign rfl) ?_
    refine Oy rfl (Yl.assign rfl) ?_
    refine OW.nil ?_
    refine Wr ?_
    refine Oy rfl (Yl.move rfl) ?_
    refine Oy rfl (Yl.lss rfl rfl) ?_
    refine Oy rfl (Yl.move rfl) ?_
    refine OW.split (t := 23) rfl (fun hq4 => ?_) (fun hq4 => ?_)
    ·have hq4d := of_decide_eq_true hq4
     refine OW.not (Wn.not rfl rfl rfl hq4) rfl ?_
     refine OW.not (Wn.not rfl rfl rfl hq4) rfl ?_
     refine Oy rfl (Yl.pick_true rfl hq4 rfl) ?_
     refine Oy rfl (Yl.move rfl) ?_
     refine OW.not (Wn.not rfl rfl rfl rfl) rfl ?_
     refine OW.not (Wn.not rfl rfl rfl rfl) rfl ?_
     refine OW.not (Wn.not rfl rfl rfl rfl) rfl ?_
     refine OW.not (Wn.nob rfl rfl rfl) rfl ?_
     refine OW.not (Wn.nob rfl rfl rfl) rfl ?_
     refine OW.not (Wn.nob rfl rfl rfl) rfl ?_
     refine OW.not (Wn.nob rfl rfl rfl) rfl ?_
     refine OW.not (Wn.nob rfl rfl rfl) rfl ?_
     refine OW.not (Wn.nob rfl rfl rfl) rfl ?_
     refine OW.not (Wn.nob rfl rfl rfl) rfl ?_
     refine OW.not (Wn.not rfl rfl rfl rfl) rfl ?_
     refine Oy rfl (Yl.pick_true rfl rfl rfl) ?_
     refine OW.nil ?_
     refine W.cond_true rfl ?_
     refine Wr ?_
     refine Oy rfl (Yl.assign rfl) ?_
     refine Oy rfl (Yl.assign rfl) ?_
     refine OW.nil ?_
     refine W.ret ?_
     first | exact Fin.mk (Rsl.two rfl rfl rfl) (.inr ⟨hok, _, _, rfl, rfl⟩) (by repeat constructor) (by repeat constructor) | exact Fin.mk (Rsl.two rfl rfl rfl) (.inl ⟨timesOk_n (by omega), rfl, rfl⟩) (by repeat constructor) (by repeat constructor) | exact Fin.mk (Rsl.two rfl rfl rfl) (.inl ⟨timesOk_f (by rw [i1]; exact chkT_f (by omega)), rfl, rfl⟩) (by repeat constructor) (by repeat constructor)
    ·have hq4d := of_decide_eq_false hq4
     refine OW.yl (Wn.run rfl rfl rfl hq4) rfl (Yl.move rfl) ?_
     refine OW.yl (Wn.run rfl rfl rfl hq4) rfl (Yl.gtr rfl rfl) ?_
     refine Oy rfl (Yl.pick_false rfl hq4 rfl) ?_
     refine Oy rfl (Yl.move rfl) ?_
     refine OW.split (t := 27) rfl (fun hq5 => ?_) (fun hq5 => ?_)
     ·have hq5d := of_decide_eq_true hq5
      refine OW.not (Wn.not rfl rfl rfl hq5) rfl ?_
      refine OW.not (Wn.not rfl rfl rfl hq5) rfl ?_
      refine OW.not (Wn.not rfl rfl rfl hq5) rfl ?_
      refine OW.not (Wn.nob rfl rfl rfl) rfl ?_
      refine OW.not (Wn.nob rfl rfl rfl) rfl ?_
      refine OW.not (Wn.nob rfl rfl rfl) rfl ?_
      refine OW.not (Wn.nob rfl rfl rfl) rfl ?_
      refine OW.not (Wn.nob rfl rfl rfl) rfl ?_
      refine OW.not (Wn.nob rfl rfl rfl) rfl ?_
      refine OW.not (Wn.nob rfl rfl rfl) rfl ?_
      refine OW.not (Wn.not rfl rfl rfl hq5) rfl ?_
      refine Oy rfl (Yl.pick_true rfl hq5 rfl) ?_
      refine OW.nil ?_
      refine W.cond_true rfl ?_
      refine Wr ?_
      refine Oy rfl (Yl.assign rfl) ?_
      refine Oy rfl (Yl.assign rfl) ?_
      refine OW.nil ?_
      refine W.ret ?_
      first | exact Fin.mk (Rsl.two rfl rfl rfl) (.inr ⟨hok, _, _, rfl, rfl⟩) (by repeat constructor) (by repeat constructor) | exact Fin.mk (Rsl.two rfl rfl rfl) (.inl ⟨timesOk_n (by omega), rfl, rfl⟩) (by repeat constructor) (by repeat constructor) | exact Fin.mk (Rsl.two rfl rfl rfl) (.inl ⟨timesOk_f (by rw [i1]; exact chkT_f (by omega)), rfl, rfl⟩) (by repeat constructor) (by repeat constructor)
     ·have hq5d := of_decide_eq_false hq5
      refine OW.yl (Wn.run rfl rfl rfl hq5) rfl (Yl.move rfl) ?_
      refine OW.yl (Wn.run rfl rfl rfl hq5) rfl (Yl.gtr rfl rfl) ?_
      refine OW.yl (Wn.run rfl rfl rfl hq5) rfl (Yl.move rfl) ?_
      refine OW.split (t := 30) rfl (fun hq6 => ?_) (fun hq6 => ?_)
      ·have hq6d := of_decide_eq_true hq6
       obtain ⟨z, hz⟩ : ∃ z, l[i - 1]? = some z := ⟨_, List.getElem?_eq_getElem (by omega)⟩
       rw [prevT_pos (by omega) hz] at i1
       refine OW.yl (Wn.run rfl rfl rfl hq6) rfl (Yl.move rfl) ?_
       refine OW.yl (Wn.run rfl rfl rfl hq6) rfl (Yl.move rfl) ?_
       refine OW.yl (Wn.run rfl rfl rfl hq6) rfl (Yl.sub rfl rfl (by omega)) ?_
       refine OW.yl (Wn.run rfl rfl rfl hq6) rfl (Yl.indexS (i - 1) ⟨Tryz.underlying51, Tryz.sizeOf2⟩ rfl rfl (by omega) (by omega)) ?_
       refine OW.yl (Wn.run rfl rfl rfl hq6) rfl (Yl.loadS0 Tryz.isAgg2 rfl (by repeat constructor) (map_at hz) (by repeat constructor)) ?_
       refine OW.yl (Wn.run rfl rfl rfl hq6) rfl (Yl.move rfl) ?_
       refine OW.yl (Wn.run rfl rfl rfl hq6) rfl (Yl.geq rfl rfl) ?_
       refine OW.yl (Wn.run rfl rfl rfl hq5) rfl (Yl.pick_true rfl hq6 rfl) ?_
       refine Oy rfl (Yl.pick_false rfl hq5 rfl) ?_
       refine OW.nil ?_
       refine W.cond rfl (fun hq7 => ?_) (fun hq7 => ?_)
       ·have hq7d := of_decide_eq_true hq7
        refine Wr ?_
        refine Oy rfl (Yl.assign rfl) ?_
        refine Oy rfl (Yl.assign rfl) ?_
        refine OW.nil ?_
        refine W.ret ?_
        first | exact Fin.mk (Rsl.two rfl rfl rfl) (.inr ⟨hok, _, _, rfl, rfl⟩) (by repeat constructor) (by repeat constructor) | exact Fin.mk (Rsl.two rfl rfl rfl) (.inl ⟨timesOk_n (by omega), rfl, rfl⟩) (by repeat constructor) (by repeat constructor) | exact Fin.mk (Rsl.two rfl rfl rfl) (.inl ⟨timesOk_f (by rw [i1]; exact chkT_f (by omega)), rfl, rfl⟩) (by repeat constructor) (by repeat constructor)
       ·have hq7d := of_decide_eq_false hq7
        refine W.skip ?_
        refine W.region ?_
        refine Oy rfl (Yl.add rfl rfl (by omega)) ?_
        refine Oy rfl (Yl.move rfl) ?_
        refine OW.nil ?_
        refine ⟨i + 1, _, ⟨by omega, ?_⟩, (Le.cons rfl (Le.cons rfl (Le.cons rfl (Le.cons rfl (Le.nil _))))), rfl, by repeat constructor, by repeat constructor, by first | omega | (dsimp only; omega)⟩
        have e : prevT l (i + 1) = y := by simp [prevT, hy]
        first | exact ⟨by rw [i1, e]; exact chkT_y (by omega), by rw [e]; omega⟩ | exact ⟨by rw [i1, e]; exact chkT_y ⟨by have h0 : i = 0 := (by omega); subst h0; simp only [prevT]; omega, by omega⟩, by rw [e]; omega⟩
      ·have hq6d := of_decide_eq_false hq6
       refine OW.not (Wn.not rfl rfl rfl hq6) rfl ?_
       refine OW.not (Wn.not rfl rfl rfl hq6) rfl ?_
       refine OW.not (Wn.not rfl rfl rfl hq6) rfl ?_
       refine OW.not (Wn.not rfl rfl rfl hq6) rfl ?_
       refine OW.not (Wn.not rfl rfl rfl hq6) rfl ?_
       refine OW.not (Wn.not rfl rfl rfl hq6) rfl ?_
       refine OW.not (Wn.not rfl rfl rfl hq6) rfl ?_
       refine OW.yl (Wn.run rfl rfl rfl hq5) rfl (Yl.pick_false rfl hq6 rfl) ?_
       refine Oy rfl (Yl.pick_false rfl hq5 rfl) ?_
       refine OW.nil ?_
       refine W.cond_false rfl ?_
       refine W.skip ?_
       refine W.region ?_
       refine Oy rfl (Yl.add rfl rfl (by omega)) ?_
       refine Oy rfl (Yl.move rfl) ?_
       refine OW.nil ?_
       refine ⟨i + 1, _, ⟨by omega, ?_⟩, (Le.cons rfl (Le.cons rfl (Le.cons rfl (Le.cons rfl (Le.nil _))))), rfl, by repeat constructor, by repeat constructor, by first | omega | (dsimp only; omega)⟩
       have e : prevT l (i + 1) = y := by simp [prevT, hy]
       first | exact ⟨by rw [i1, e]; exact chkT_y (by omega), by rw [e]; omega⟩ | exact ⟨by rw [i1, e]; exact chkT_y ⟨by have h0 : i = 0 := (by omega); subst h0; simp only [prevT]; omega, by omega⟩, by rw [e]; omega⟩
   ·have hq3d := of_decide_eq_false hq3
    rw [drop_end (by omega)] at i1
    have hok : timesOkM l = true := timesOk_t (by omega) i1
    refine W.exit ?_
    refine Wr ?_
    refine Oy rfl (Yl.move rfl) ?_
    refine OW.call (Wn.plain rfl) rfl rfl rfl (FnC.tri0 Tryz.call194 (c_rlaid l _ _ hok)) (by repeat constructor) ?_
    rintro _ _ ⟨a', c', rfl, rfl⟩
    refine Oy rfl (Yl.assign rfl) ?_
    refine Oy rfl (Yl.assign rfl) ?_
    refine OW.nil ?_
    refine W.ret ?_
    first | exact Fin.mk (Rsl.two rfl rfl rfl) (.inr ⟨hok, _, _, rfl, rfl⟩) (by repeat constructor) (by repeat constructor) | exact Fin.mk (Rsl.two rfl rfl rfl) (.inl ⟨timesOk_n (by omega), rfl, rfl⟩) (by repeat constructor) (by repeat constructor) | exact Fin.mk (Rsl.two rfl rfl rfl) (.inl ⟨timesOk_f (by rw [i1]; exact chkT_f (by omega)), rfl, rfl⟩) (by repeat constructor) (by repeat constructor)

theorem times_take {l : List Rn} {i : Nat} {y : Rn} (h : l[i]? = some y) : timesR (l.take (i + 1)) = timesR (l.take i) ++ timesOf y := by
 rw [take_at h, timesR_app]; simp [timesR]
theorem times_lenat {l : List Rn} {i : Nat} {y : Rn} (h : l[i]? = some y) : (timesR (l.take (i + 1))).length = (timesR (l.take i)).length + y.Count.toNat := by
 rw [times_take h, List.length_append, timesOf_len]
theorem times_at {l : List Rn} {i k : Nat} {y : Rn} (h : l[i]? = some y) (hk : k < y.Count.toNat) : (timesR l)[(timesR (l.take i)).length + k]? = some (y.From + y.Step * (k : Int)) := by
 have e : timesR l = timesR (l.take i) ++ (timesOf y ++ timesR (l.drop (i + 1))) := by
  conv => lhs; rw [← List.take_append_drop (i + 1) l, timesR_app, times_take h]
  rw [List.append_assoc]
 rw [e, List.getElem?_append_right (by omega), Nat.add_sub_cancel_left, List.getElem?_append_left (by rw [timesOf_len]; exact hk)]
 simp [timesOf, hk]

theorem i_rall (l : List Rn) (a : Option Addr) (c bl : Nat) (h : risesM l = true) : Iter Tryz.prog 233 [] [.pointer (some ⟨bl, 0, none⟩)] [.cell bl [.slice a l.length c] 50, rowI 3 encR l a c] [] (timesR l) (fun x vs Lx => vs = [.int .i64 x] ∧ Lx = []) := by
 intro yv S Sx I R Ix Rx s0 h0 hyld
 refine FnC.go (m := 29) Tryz.func233 Tryz.ntmps233 rfl (Nat.le_of_ble_eq_true rfl) (fun Lf => ?_)
 obtain ⟨h1, h2, h3⟩ := risesM_t h
 have hall := risesL_all h2
 refine W.fact (Sl.isSome (by repeat constructor) (by omega)) ?_
 rintro ⟨p0, rfl⟩
 refine W.scope ?_
 refine W.seq ?_
 refine W.label ?_
 refine Wr ?_
 refine Oy rfl (Yl.load1 Tryz.isAgg50 rfl (by repeat constructor) (by repeat constructor)) ?_
 refine Oy rfl (Yl.len ⟨Tryz.underlying50, Tryz.sizeOf96⟩ rfl) ?_
 refine Oy rfl (Yl.move rfl) ?_
 refine OW.nil ?_
 refine W.block ?_
 refine W.loopS (X := (Nat) × (S)) (fun (x : (Nat) × (S)) => match x with | (i, s) => (i ≤ l.length ∧ (I (timesR (l.take i)).length s) : Prop)) (fun (x : (Nat) × (S)) => match x with | (i, s) => ([(8, .int .i64 (i : Int))] : Env)) (fun (x : (Nat) × (S)) => match x with | (i, s) => (([.cell bl [.slice (some p0) l.length c] 50, rowI 3 encR l (some p0) c] ++ R s) : List Res)) (fun (x : (Nat) × (S)) => match x with | (i, s) => (l.length - i : Nat)) (0, s0) [(0, _), (6, _), (7, _)] (by exact ⟨Nat.zero_le _, h0⟩) (Le.cons rfl (Le.cons rfl (Le.cons rfl (Le.cons rfl (Le.nil _))))) (by repeat constructor) ?_
 rintro ⟨i, s⟩ ⟨hi, hinv⟩
 show W _ _ _ _ _ _ ([(8, .int .i64 (i : Int))] ++ _) _ (([.cell bl [.slice (some p0) l.length c] 50, rowI 3 encR l (some p0) c] ++ R s) ++ _)
 refine Wr ?_
 refine Oy rfl (Yl.lss rfl rfl) ?_
 refine OW.nil ?_
 refine W.seq ?_
 refine W.cond rfl (fun hq1 => ?_) (fun hq1 => ?_)
 ·have hq1d := of_decide_eq_true hq1
  obtain ⟨y, hy, hdr⟩ := drop_at (l := l) (i := i) (by omega)
  have hyA := (hall y (List.mem_of_getElem? hy)).1
  have hyB := runA_t hyA
  refine W.skip ?_
  refine W.seq ?_
  refine W.block ?_
  refine Wr ?_
  refine Oy rfl (Yl.indexS i ⟨Tryz.underlying50, Tryz.sizeOf96⟩ rfl rfl rfl (by omega)) ?_
  refine Oy rfl (Yl.loadE ⟨Tryz.isAgg96, Tryz.sizeOf96⟩ rfl (by repeat constructor) (map_at hy)) ?_
  refine OW.alloc (Wn.plain rfl) rfl Tryz.zeroValue96 (by constructor) (fun b1 => ?_)
  refine OW.store (Wn.plain rfl) Tryz.sizeOf96 rfl rfl (by constructor) (by repeat constructor) rfl (by repeat constructor) (by repeat constructor) ?_
  refine OW.nil ?_
  refine Wr ?_
  refine Oy rfl (Yl.fieldL 2 (fa_96_2) rfl rfl) ?_
  refine Oy rfl (Yl.load1 Tryz.isAgg3 rfl (by repeat constructor) (by repeat constructor)) ?_
  refine Oy rfl (Yl.move rfl) ?_
  refine OW.nil ?_
  refine W.block ?_
  refine W.loopS (X := (Nat) × (S)) (fun (x : (Nat) × (S)) => match x with | (k, s2) => (k ≤ y.Count.toNat ∧ (I ((timesR (l.take i)).length + k) s2) : Prop)) (fun (x : (Nat) × (S)) => match x with | (k, s2) => ([(14, .int .i64 (k : Int))] : Env)) (fun (x : (Nat) × (S)) => match x with | (k, s2) => (([.cell b1 (encR y) 96, .cell bl [.slice (some p0) l.length c] 50, rowI 3 encR l (some p0) c] ++ R s2) : List Res)) (fun (x : (Nat) × (S)) => match x with | (k, s2) => (y.Count.toNat - k : Nat)) (0, s) [(0, _), (4, _), (6, _), (7, _), (8, _), (13, _)] (by exact ⟨Nat.zero_le _, hinv⟩) (Le.cons rfl (Le.cons rfl (Le.cons rfl (Le.cons rfl (Le.cons rfl (Le.cons rfl (Le.cons rfl (Le.nil _)))))))) (by repeat constructor) ?_
  rintro ⟨k, s2⟩ ⟨hi, hinv⟩
  show W _ _ _ _ _ _ ([(14, .int .i64 (k : Int))] ++ _) _ (([.cell b1 (encR y) 96, .cell bl [.slice (some p0) l.length c] 50, rowI 3 encR l (some p0) c] ++ R s2) ++ _)
  refine Wr ?_
  refine Oy rfl (Yl.lss rfl rfl) ?_
  refine OW.nil ?_
  refine W.seq ?_
  refine W.cond rfl (fun hq2 => ?_) (fun hq2 => ?_)
  ·have hq2d := of_decide_eq_true hq2
   have hm := runA_mul (k := k) hyA (by omega) (by omega)
   refine W.skip ?_
   refine W.seq ?_
   refine W.block ?_
   refine Wr ?_
   refine Oy rfl (Yl.move rfl) ?_
   refine Oy rfl (Yl.assign rfl) ?_
   refine OW.nil ?_
   refine Wr ?_
   refine Oy rfl (Yl.move rfl) ?_
   refine Oy rfl (Yl.fieldL 0 (fa_96_0) rfl rfl) ?_
   refine Oy rfl (Yl.load1 Tryz.isAgg2 rfl (by repeat constructor) (by repeat constructor)) ?_
   refine Oy rfl (Yl.fieldL 1 (fa_96_1) rfl rfl) ?_
   refine Oy rfl (Yl.load1 Tryz.isAgg2 rfl (by repeat constructor) (by repeat constructor)) ?_
   refine Oy rfl (Yl.move rfl) ?_
   refine Oy rfl (Yl.mul rfl rfl (by omega)) ?_
   refine Oy rfl (Yl.add rfl rfl (by omega)) ?_
   refine OW.yield (Wn.plain rfl) rfl rfl rfl (by repeat constructor) (by repeat constructor) (hyld ((timesR (l.take i)).length + k) (y.From + y.Step * (k : Int)) s2 _ [] (times_at hy (by omega)) ⟨rfl, rfl⟩ hinv) ?_ ?_
   ·rintro s' hI'
    refine Oy rfl (Yl.not rfl) ?_
    refine OW.nil ?_
    refine W.cond_f1 rfl (bnot_t rfl) ?_
    refine W.skip ?_
    refine W.region ?_
    refine Oy rfl (Yl.add rfl rfl (by omega)) ?_
    refine Oy rfl (Yl.move rfl) ?_
    refine OW.nil ?_
    refine ⟨(k + 1, s'), _, ⟨by omega, ?_⟩, (Le.cons rfl (Le.cons rfl (Le.cons rfl (Le.cons rfl (Le.cons rfl (Le.cons rfl (Le.cons rfl (Le.nil _)))))))), rfl, by repeat constructor, by repeat constructor, by first | omega | (dsimp only; omega)⟩
    exact hI'
   ·rintro s' hX
    refine Oy rfl (Yl.not rfl) ?_
    refine OW.nil ?_
    refine W.cond_t1 rfl (bnot_f rfl) ?_
    refine W.exit ?_
    first | exact Fin.mk (Rsl.none rfl) (.inr ⟨_, hX, rfl⟩) (by repeat constructor) (by repeat constructor) | exact Fin.mk (Rsl.none rfl) (.inl ⟨_, hinv, rfl⟩) (by repeat constructor) (by repeat constructor)
  ·have hq2d := of_decide_eq_false hq2
   have hin : I ((timesR (l.take i)).length + y.Count.toNat) s2 := by rw [show y.Count.toNat = k from by omega]; exact hinv
   refine W.exit ?_
   refine W.region ?_
   refine Oy rfl (Yl.add rfl rfl (by omega)) ?_
   refine Oy rfl (Yl.move rfl) ?_
   refine OW.nil ?_
   refine ⟨(i + 1, s2), _, ⟨by omega, ?_⟩, (Le.cons rfl (Le.cons rfl (Le.cons rfl (Le.cons rfl (Le.nil _))))), rfl, by repeat constructor, by repeat constructor, by first | omega | (dsimp only; omega)⟩
   rw [times_lenat hy]; exact hin
 ·have hq1d := of_decide_eq_false hq1
  rw [take_end (by omega)] at hinv
  refine W.exit ?_
  first | exact Fin.mk (Rsl.none rfl) (.inr ⟨_, hX, rfl⟩) (by repeat constructor) (by repeat constructor) | exact Fin.mk (Rsl.none rfl) (.inl ⟨_, hinv, rfl⟩) (by repeat constructor) (by repeat constructor)
theorem c_rall (l : List Rn) (a : Option Addr) (c : Nat) : FnC Tryz.prog 173 #[.slice a l.length c] [] (fun v L' => ∃ bl, v = .func (.func 233) #[] #[.pointer (some ⟨bl, 0, none⟩)] ∧ L' = [.cell bl [.slice a l.length c] 50]) := by
 refine FnC.go (m := 4) Tryz.func173 Tryz.ntmps173 rfl (Nat.le_of_ble_eq_true rfl) (fun Lf => ?_)
 refine Wr ?_
 refine OW.box (Wn.plain rfl) rfl rfl (by constructor) (fun b1 => ?_)
 refine Oy rfl (Yl.assign rfl) ?_
 refine OW.nil ?_
 refine Wr ?_
 refine Oy rfl (Yl.makeFunc rfl rfl) ?_
 refine Oy rfl (Yl.assign rfl) ?_
 refine OW.nil ?_
 refine W.ret ?_
 exact Fin.mk (Rsl.one rfl rfl) ⟨_, rfl, rfl⟩ (by repeat constructor) (by repeat constructor)

theorem times_n {l : List Rn} (h : risesM l = true) : (timesR l).length ≤ 256 := by
 obtain ⟨h1, h2, h3⟩ := risesM_t h
 have := timesR_len fun r hr => (risesL_all h2 r hr).1
 omega

theorem c_appSeqT (l : List Rn) (a : Option Addr) (c bl : Nat) (h : risesM l = true) : FnC Tryz.prog 232 #[.slice none 0 0, .func (.func 233) #[] #[.pointer (some ⟨bl, 0, none⟩)]] [.cell bl [.slice a l.length c] 50, rowI 3 encR l a c] (RetRow 1 encI (timesR l)) := by
 refine FnC.go (m := 13) Tryz.func232 Tryz.ntmps232 rfl (Nat.le_of_ble_eq_true rfl) (fun Lf => ?_)
 have hln := times_n h
 refine Wr ?_
 refine OW.box (Wn.plain rfl) rfl rfl (by constructor) (fun b1 => ?_)
 refine Oy rfl (Yl.assign rfl) ?_
 refine OW.nil ?_
 refine W.seq ?_
 refine Wr ?_
 refine Oy rfl (Yl.move rfl) ?_
 refine OW.nil ?_
 refine W.block ?_
 refine W.ent (Ent.new_arr 2 1) ?_
 refine W.rangeF (S := (List Int) × (Option Addr) × (Nat)) (fun (k : Nat) (x : (List Int) × (Option Addr) × (Nat)) => match x with | (ys, ra, rc) => (ys = (timesR l).take k : Prop)) (fun  (x : (List Int) × (Option Addr) × (Nat)) => match x with | (ys, ra, rc) => ([.cell b1 [.slice ra ys.length rc] 51, rowR 2 1 encI ys ra rc] : List Res)) (fun (ex : Exit) (x : (List Int) × (Option Addr) × (Nat)) => match x with | (ys, ra, rc) => (False : Prop)) (fun  (x : (List Int) × (Option Addr) × (Nat)) => match x with | (ys, ra, rc) => ([.cell b1 [.slice ra ys.length rc] 51, rowR 2 1 encI ys ra rc] : List Res)) ([], none, 0) rfl Tryz.call233 (i_rall l a c bl h) (by repeat constructor) (by rfl) rfl (by rintro _ _ _ ⟨rfl, _⟩; rfl) ?_ ?_ ?_
 ·rintro lp k p ⟨ys, ra, rc⟩ vs Lx hx ⟨rfl, rfl⟩ hI Lf
  show W _ _ _ _ _ _ _ [] ([] ++ [.cell b1 [.slice ra ys.length rc] 51, rowR 2 1 encI ys ra rc] ++ Lf)
  have hyl : ys.length ≤ 256 := by rw [hI]; simp; omega
  refine W.region ?_
  refine Oy rfl (Yl.assign rfl) ?_
  refine OW.nil ?_
  refine ⟨rfl, _, by repeat constructor, fun Lf => ?_⟩
  refine W.block ?_
  refine W.region ?_
  refine Oy rfl (Yl.load1 Tryz.isAgg51 rfl (by repeat constructor) (by repeat constructor)) ?_
  refine Oy rfl (Yl.move rfl) ?_
  refine OW.lit (is := [0]) (xs := [.tmp 9]) (Wn.plain rfl) rfl rw_51 rfl rfl rfl (by decide) (by repeat constructor) (fun b2 => ?_)
  refine OW.push  (Wn.plain rfl) rfl rw_51 rfl rfl (by repeat constructor) ⟨_, by repeat constructor⟩ (by rfl) (by rfl) (by repeat constructor) (by omega) (by omega) (fun a1 c1 => ?_)
  refine OW.store (Wn.plain rfl) Tryz.sizeOf51 rfl rfl (by constructor) (by repeat constructor) rfl (by repeat constructor) (by repeat constructor) ?_
  refine OW.nil ?_
  refine ⟨(ys ++ [p], _, _), ?_, EntL (by repeat constructor) (by repeat constructor)⟩
  rw [take_at hx, hI]
 ·rintro D1 ⟨ys, ra, rc⟩ hI
  rw [List.take_length] at hI; subst hI
  refine Wr ?_
  refine Oy rfl (Yl.load1 Tryz.isAgg51 rfl (by repeat constructor) (by repeat constructor)) ?_
  refine Oy rfl (Yl.assign rfl) ?_
  refine OW.nil ?_
  refine W.ret ?_
  refine Fin.marks [D1] rfl (by repeat constructor) ?_
  refine Fin.ent (Ent.sealP (f := encI) (E := 2) (sz := 1) (by repeat constructor) (fun _ => rfl)) ?_
  exact Fin.mk (Rsl.one rfl rfl) ⟨_, _, rfl, rfl⟩ (by repeat constructor) (by repeat constructor)
 ·rintro _ _ _ h; exact h.elim
theorem c_collT (l : List Rn) (a : Option Addr) (c bl : Nat) (h : risesM l = true) : FnC Tryz.prog 172 #[.func (.func 233) #[] #[.pointer (some ⟨bl, 0, none⟩)]] [.cell bl [.slice a l.length c] 50, rowI 3 encR l a c] (RetRow 1 encI (timesR l)) := by
 refine FnC.go (m := 5) Tryz.func172 Tryz.ntmps172 rfl (Nat.le_of_ble_eq_true rfl) (fun Lf => ?_)
 refine Wr ?_
 refine Oy rfl (Yl.assign rfl) ?_
 refine OW.nil ?_
 refine Wr ?_
 refine Oy rfl (Yl.move rfl) ?_
 refine OW.call (Wn.plain rfl) rfl rfl rfl (FnC.tri0 Tryz.call232 (c_appSeqT l a c bl h)) (by repeat constructor) ?_
 rintro _ _ ⟨ra, rc, rfl, rfl⟩
 refine Oy rfl (Yl.assign rfl) ?_
 refine OW.nil ?_
 refine W.ret ?_
 exact Fin.mk (Rsl.one rfl rfl) ⟨_, _, rfl, rfl⟩ (by repeat constructor) (by repeat constructor)
theorem c_rTimes (l : List Rn) (a : Option Addr) (c : Nat) : FnC Tryz.prog 112 #[.slice a l.length c] [rowI 3 encR l a c] (fun v L' => (risesM l = false ∧ v = .tuple #[.slice none 0 0, .int .i64 170] ∧ L' = []) ∨ (risesM l = true ∧ ∃ a' c', v = .tuple #[.slice a' (timesR l).length c', .int .i64 0] ∧ L' = [rowI 1 encI (timesR l) a' c'])) := by
 refine FnC.go (m := 10) Tryz.func112 Tryz.ntmps112 rfl (Nat.le_of_ble_eq_true rfl) (fun Lf => ?_)
 refine Wr ?_
 refine Oy rfl (Yl.assign rfl) ?_
 refine Oy rfl (Yl.assign rfl) ?_
 refine OW.nil ?_
 refine W.seq ?_
 refine Wr ?_
 refine Oy rfl (Yl.move rfl) ?_
 refine OW.callv (Wn.plain rfl) rfl Tryz.call106 rfl (c_rises _ _ _) (by repeat constructor) ?_
 refine Oy rfl (Yl.not rfl) ?_
 refine OW.nil ?_
 refine W.cond rfl (fun hq1 => ?_) (fun hq1 => ?_)
 ·have hq1n := not_t hq1
  have hr : risesM l = false := by simpa using hq1
  refine Wr ?_
  refine Oy rfl (Yl.assign rfl) ?_
  refine Oy rfl (Yl.assign rfl) ?_
  refine OW.nil ?_
  refine W.ret ?_
  first | exact Fin.mk (Rsl.two rfl rfl rfl) (.inr ⟨hr, _, _, rfl, rfl⟩) (by repeat constructor) (by repeat constructor) | exact Fin.mk (Rsl.two rfl rfl rfl) (.inl ⟨hr, rfl, rfl⟩) (by repeat constructor) (by repeat constructor)
 ·have hq1n := not_f hq1
  have hr : risesM l = true := by simpa using hq1
  refine W.skip ?_
  refine Wr ?_
  refine Oy rfl (Yl.move rfl) ?_
  refine OW.call (Wn.plain rfl) rfl rfl rfl (FnC.tri0 Tryz.call173 (c_rall _ _ _)) (by repeat constructor) ?_
  rintro _ _ ⟨bl, rfl, rfl⟩
  refine OW.call (Wn.plain rfl) rfl rfl rfl (FnC.tri0 Tryz.call172 (c_collT l _ _ _ hr)) (by repeat constructor) ?_
  rintro _ _ ⟨ra, rc, rfl, rfl⟩
  refine Oy rfl (Yl.assign rfl) ?_
  refine Oy rfl (Yl.assign rfl) ?_
  refine OW.nil ?_
  refine W.ret ?_
  first | exact Fin.mk (Rsl.two rfl rfl rfl) (.inr ⟨hr, _, _, rfl, rfl⟩) (by repeat constructor) (by repeat constructor) | exact Fin.mk (Rsl.two rfl rfl rfl) (.inl ⟨hr, rfl, rfl⟩) (by repeat constructor) (by repeat constructor)
end Go.Yb
