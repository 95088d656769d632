/-
  A part of the proof of windowLine_holds: see the text that holds it. No conditions of its own.
-/
import Derived.Test.YtbfhhinhjgdgpaaGreatDoorLine
namespace Go.Yb
open Go Go.Proofs Go.RowKit

/-! span: spans of whole numbers -/
structure Spn where
  Lo : Int
  Hi : Int
  deriving DecidableEq
def encP (s : Spn) : List Value := [.int .i64 s.Lo, .int .i64 s.Hi]
def spanOk (s : Spn) : Bool := decide (s.Lo ≤ s.Hi)
def metM (a b : Spn) : Spn := ⟨max a.Lo b.Lo, min a.Hi b.Hi⟩
def foldM (g : Spn → Spn → Spn) : List Spn → Spn
  | [] => ⟨0, 0⟩
  | x :: xs => xs.foldl g x
def togM (g : Spn → Spn → Spn) (l : List Spn) : Option Spn := if l.all spanOk && !l.isEmpty && spanOk (foldM g l) then some (foldM g l) else none
theorem c_spCheck (s : Spn) : FnV Tryz.prog 279 #[.agg (encP s).toArray] [] (.int .i64 (if spanOk s then 0 else 140)) := by
 refine FnC.go (m := 8) Tryz.func279 Tryz.ntmps279 rfl (Nat.le_of_ble_eq_true rfl) (fun Lf => ?_)
 refine Wr ?_
 refine OW.box (Wn.plain rfl) rfl rfl (by constructor) (fun b1 => ?_)
 refine Oy rfl (Yl.assign rfl) ?_
 refine OW.nil ?_
 refine W.seq ?_
 refine Wr ?_
 refine Oy rfl (Yl.fieldL 0 (fa_194_0) rfl rfl) ?_
 refine Oy rfl (Yl.load1 Tryz.isAgg2 rfl (by repeat constructor) (by repeat constructor)) ?_
 refine Oy rfl (Yl.fieldL 1 (fa_194_1) rfl rfl) ?_
 refine Oy rfl (Yl.load1 Tryz.isAgg2 rfl (by repeat constructor) (by repeat constructor)) ?_
 refine Oy rfl (Yl.gtr rfl rfl) ?_
 refine OW.nil ?_
 refine W.cond rfl (fun hq1 => ?_) (fun hq1 => ?_)
 ·have hq1d := of_decide_eq_true hq1
  refine Wr ?_
  refine Oy rfl (Yl.assign rfl) ?_
  refine OW.nil ?_
  refine W.ret ?_
  refine Fin.mk (Rsl.one rfl rfl) ⟨?_, rfl⟩ (by repeat constructor) (by repeat constructor)
  simp_all [spanOk] <;> omega
 ·have hq1d := of_decide_eq_false hq1
  refine W.skip ?_
  refine Wr ?_
  refine Oy rfl (Yl.assign rfl) ?_
  refine OW.nil ?_
  refine W.ret ?_
  refine Fin.mk (Rsl.one rfl rfl) ⟨?_, rfl⟩ (by repeat constructor) (by repeat constructor)
  simp_all [spanOk] <;> omega

theorem allOk_step {l : List Spn} {i : Nat} {y : Spn} (h : (l.take i).all spanOk = true) (hy : l[i]? = some y) (hq : spanOk y = true) : (l.take (i + 1)).all spanOk = true := by rw [take_at hy]; simp_all
theorem allOk_no {l : List Spn} {i : Nat} {y : Spn} (hy : l[i]? = some y) (hq : spanOk y = false) : l.all spanOk = false := by
 have := List.mem_of_getElem? hy
 rw [List.all_eq_false]; exact ⟨y, this, by simp [hq]⟩

theorem c_checked (l : List Spn) (a : Option Addr) (c : Nat) (hl : l.length ≤ 4096) : FnV Tryz.prog 306 #[.slice a l.length c] [rowI 2 encP l a c] (.int .i64 (if l.all spanOk then 0 else 140)) := by
 refine FnC.go (m := 18) Tryz.func306 Tryz.ntmps306 rfl (Nat.le_of_ble_eq_true rfl) (fun Lf => ?_)
 refine Wr ?_
 refine Oy rfl (Yl.assign rfl) ?_
 refine OW.nil ?_
 refine W.seq ?_
 refine Wr ?_
 refine Oy rfl (Yl.move rfl) ?_
 refine Oy rfl (Yl.len ⟨Tryz.underlying399, Tryz.sizeOf194⟩ rfl) ?_
 refine Oy rfl (Yl.move rfl) ?_
 refine OW.nil ?_
 refine W.block ?_
 refine W.loopS (X := (Nat)) (fun (i : (Nat)) => (i ≤ l.length ∧ ((l.take i).all spanOk = true) : Prop)) (fun (i : (Nat)) => ([(8, .int .i64 (i : Int))] : Env)) (fun (i : (Nat)) => ([] : List Res)) (fun (i : (Nat)) => (l.length - i : Nat)) 0 [(6, _), (7, _)] (by simp) (Le.cons rfl (Le.cons rfl (Le.cons rfl (Le.nil _)))) (by repeat constructor) ?_
 rintro i ⟨hi, hinv⟩
 show W _ _ _ _ _ _ ([(8, .int .i64 (i : Int))] ++ _) _ ([] ++ _)
 refine Wr ?_
 refine Oy rfl (Yl.lss rfl rfl) ?_
 refine OW.nil ?_
 refine W.seq ?_
 refine W.cond rfl (fun hq1 => ?_) (fun hq1 => ?_)
 ·have hq1d := of_decide_eq_true hq1
  obtain ⟨y, hy, hdr⟩ := drop_at (l := l) (i := i) (by omega)
  refine W.skip ?_
  refine W.seq ?_
  refine W.block ?_
  refine Wr ?_
  refine OW.fact (Sl.isSome (by repeat constructor) (by omega)) ?_
  rintro ⟨p1, hp1⟩; try dsimp only at hp1
  subst hp1
  refine Oy rfl (Yl.indexS i ⟨Tryz.underlying399, Tryz.sizeOf194⟩ rfl rfl rfl (by omega)) ?_
  refine Oy rfl (Yl.loadE ⟨Tryz.isAgg194, Tryz.sizeOf194⟩ rfl (by repeat constructor) (map_at hy)) ?_
  refine OW.alloc (Wn.plain rfl) rfl Tryz.zeroValue194 (by constructor) (fun b1 => ?_)
  refine OW.store (Wn.plain rfl) Tryz.sizeOf194 rfl rfl (by constructor) (by repeat constructor) rfl (by repeat constructor) (by repeat constructor) ?_
  refine OW.nil ?_
  refine Wr ?_
  refine Oy rfl (Yl.load ⟨Tryz.isAgg194, Tryz.sizeOf194⟩ rfl (by repeat constructor) (by repeat constructor)) ?_
  refine OW.callv (Wn.plain rfl) rfl Tryz.call279 rfl (c_spCheck _) (by repeat constructor) ?_
  refine Oy rfl (Yl.assign rfl) ?_
  refine OW.nil ?_
  refine Wr ?_
  refine Oy rfl (Yl.move rfl) ?_
  refine Oy rfl (Yl.neq rfl rfl) ?_
  refine OW.nil ?_
  refine W.cond rfl (fun hq2 => ?_) (fun hq2 => ?_)
  ·have hq2d := of_decide_eq_true hq2
   refine Wr ?_
   refine Oy rfl (Yl.move rfl) ?_
   refine Oy rfl (Yl.assign rfl) ?_
   refine OW.nil ?_
   refine W.ret ?_
   refine Fin.mk (Rsl.one rfl rfl) ⟨?_, rfl⟩ (by repeat constructor) (by repeat constructor)
   simp [allOk_no hy (by simp_all)]; simp_all
  ·have hq2d := of_decide_eq_false hq2
   refine W.skip ?_
   refine W.region ?_
   refine Oy rfl (Yl.add rfl rfl (by omega)) ?_
   refine Oy rfl (Yl.move rfl) ?_
   refine OW.nil ?_
   refine ⟨i + 1, _, ⟨by omega, ?_⟩, (Le.cons rfl (Le.cons rfl (Le.cons rfl (Le.nil _)))), rfl, by repeat constructor, by repeat constructor, by first | omega | (dsimp only; omega)⟩
   exact allOk_step hinv hy (by simp_all)
 ·have hq1d := of_decide_eq_false hq1
  have hall := hinv
  rw [take_end (by omega)] at hall
  refine W.exit ?_
  refine Wr ?_
  refine Oy rfl (Yl.assign rfl) ?_
  refine OW.nil ?_
  refine W.ret ?_
  refine Fin.mk (Rsl.one rfl rfl) ⟨?_, rfl⟩ (by repeat constructor) (by repeat constructor)
  simp [hall]
theorem c_spOf (s : Spn) : FnV Tryz.prog 307 #[.agg (encP s).toArray] [] (.agg (encP s).toArray) := by
 refine FnC.go (m := 8) Tryz.func307 Tryz.ntmps307 rfl (Nat.le_of_ble_eq_true rfl) (fun Lf => ?_)
 refine Wr ?_
 refine OW.box (Wn.plain rfl) rfl rfl (by constructor) (fun b1 => ?_)
 refine OW.alloc (Wn.plain rfl) rfl Tryz.zeroValue403 (by constructor) (fun b2 => ?_)
 refine OW.nil ?_
 refine Wr ?_
 refine Oy rfl (Yl.fieldL 0 (fa_194_0) rfl rfl) ?_
 refine Oy rfl (Yl.load1 Tryz.isAgg2 rfl (by repeat constructor) (by repeat constructor)) ?_
 refine Oy rfl (Yl.fieldL 1 (fa_194_1) rfl rfl) ?_
 refine Oy rfl (Yl.load1 Tryz.isAgg2 rfl (by repeat constructor) (by repeat constructor)) ?_
 refine Oy rfl (Yl.buildA (is := [0, 1]) (xs := [.tmp 4, .tmp 6]) ab_403 rfl rfl (by repeat constructor)) ?_
 refine OW.store (Wn.plain rfl) Tryz.sizeOf403 rfl rfl (by constructor) (by repeat constructor) rfl (by repeat constructor) (by repeat constructor) ?_
 refine OW.nil ?_
 refine W.ret ?_
 refine Fin.mk (Rsl.of1 rfl (.cell ⟨Tryz.isAgg403, Tryz.sizeOf403⟩ rfl (by repeat constructor) (by repeat constructor))) ⟨?_, rfl⟩ (by repeat constructor) (by repeat constructor)
 rfl
theorem c_endsSpan (s : Spn) : FnV Tryz.prog 309 #[.agg (encP s).toArray] [] (.agg (encP s).toArray) := by
 refine FnC.go (m := 8) Tryz.func309 Tryz.ntmps309 rfl (Nat.le_of_ble_eq_true rfl) (fun Lf => ?_)
 refine Wr ?_
 refine OW.box (Wn.plain rfl) rfl rfl (by constructor) (fun b1 => ?_)
 refine OW.alloc (Wn.plain rfl) rfl Tryz.zeroValue194 (by constructor) (fun b2 => ?_)
 refine OW.nil ?_
 refine Wr ?_
 refine Oy rfl (Yl.indexA (o' := 0) 0 ⟨Tryz.underlying403, Tryz.sizeOf2⟩ rfl rfl rfl (by decide) rfl) ?_
 refine Oy rfl (Yl.load1 Tryz.isAgg2 rfl (by repeat constructor) (by repeat constructor)) ?_
 refine Oy rfl (Yl.indexA (o' := 1) 1 ⟨Tryz.underlying403, Tryz.sizeOf2⟩ rfl rfl rfl (by decide) rfl) ?_
 refine Oy rfl (Yl.load1 Tryz.isAgg2 rfl (by repeat constructor) (by repeat constructor)) ?_
 refine Oy rfl (Yl.build (is := [0, 1]) (xs := [.tmp 4, .tmp 6]) st_194 rfl rfl (by repeat constructor)) ?_
 refine OW.store (Wn.plain rfl) Tryz.sizeOf194 rfl rfl (by constructor) (by repeat constructor) rfl (by repeat constructor) (by repeat constructor) ?_
 refine OW.nil ?_
 refine W.ret ?_
 refine Fin.mk (Rsl.of1 rfl (.cell ⟨Tryz.isAgg194, Tryz.sizeOf194⟩ rfl (by repeat constructor) (by repeat constructor))) ⟨?_, rfl⟩ (by repeat constructor) (by repeat constructor)
 rfl
theorem c_met (a b : Spn) : FnV Tryz.prog 303 #[.agg (encP a).toArray, .agg (encP b).toArray] [] (.agg (encP (metM a b)).toArray) := by
 refine FnC.go (m := 16) Tryz.func303 Tryz.ntmps303 rfl (Nat.le_of_ble_eq_true rfl) (fun Lf => ?_)
 refine Wr ?_
 refine OW.box (Wn.plain rfl) rfl rfl (by constructor) (fun b1 => ?_)
 refine OW.box (Wn.plain rfl) rfl rfl (by constructor) (fun b2 => ?_)
 refine OW.alloc (Wn.plain rfl) rfl Tryz.zeroValue403 (by constructor) (fun b3 => ?_)
 refine OW.nil ?_
 refine Wr ?_
 refine Oy rfl (Yl.indexA (o' := 0) 0 ⟨Tryz.underlying403, Tryz.sizeOf2⟩ rfl rfl rfl (by decide) rfl) ?_
 refine Oy rfl (Yl.load1 Tryz.isAgg2 rfl (by repeat constructor) (by repeat constructor)) ?_
 refine Oy rfl (Yl.indexA (o' := 0) 0 ⟨Tryz.underlying403, Tryz.sizeOf2⟩ rfl rfl rfl (by decide) rfl) ?_
 refine Oy rfl (Yl.load1 Tryz.isAgg2 rfl (by repeat constructor) (by repeat constructor)) ?_
 refine Oy rfl (Yl.max2 rfl rfl) ?_
 refine Oy rfl (Yl.indexA (o' := 1) 1 ⟨Tryz.underlying403, Tryz.sizeOf2⟩ rfl rfl rfl (by decide) rfl) ?_
 refine Oy rfl (Yl.load1 Tryz.isAgg2 rfl (by repeat constructor) (by repeat constructor)) ?_
 refine Oy rfl (Yl.indexA (o' := 1) 1 ⟨Tryz.underlying403, Tryz.sizeOf2⟩ rfl rfl rfl (by decide) rfl) ?_
 refine Oy rfl (Yl.load1 Tryz.isAgg2 rfl (by repeat constructor) (by repeat constructor)) ?_
 refine Oy rfl (Yl.min2 rfl rfl) ?_
 refine Oy rfl (Yl.buildA (is := [0, 1]) (xs := [.tmp 9, .tmp 14]) ab_403 rfl rfl (by repeat constructor)) ?_
 refine OW.store (Wn.plain rfl) Tryz.sizeOf403 rfl rfl (by constructor) (by repeat constructor) rfl (by repeat constructor) (by repeat constructor) ?_
 refine OW.nil ?_
 refine W.ret ?_
 refine Fin.mk (Rsl.of1 rfl (.cell ⟨Tryz.isAgg403, Tryz.sizeOf403⟩ rfl (by repeat constructor) (by repeat constructor))) ⟨?_, rfl⟩ (by repeat constructor) (by repeat constructor)
 rfl

def Two (two : Value) (g : Spn → Spn → Spn) : Prop := ∀ x y : Spn, Tri Tryz.prog two #[.agg (encP x).toArray, .agg (encP y).toArray] [] (fun v L' => v = .agg (encP (g x y)).toArray ∧ L' = [])
theorem fold_step {g : Spn → Spn → Spn} {l : List Spn} {i : Nat} {y : Spn} (hy : l[i]? = some y) : foldM g (l.take (i + 1)) = if i = 0 then y else g (foldM g (l.take i)) y := by
 rw [take_at hy]
 cases i with
 | zero => simp [foldM]
 | succ i =>
  cases l with
  | nil => simp at hy
  | cons x xs => simp [foldM]
theorem fold_0 {g : Spn → Spn → Spn} {l : List Spn} {i : Nat} {y : Spn} (hy : l[i]? = some y) (h : (i : Int) = 0) : foldM g (l.take (i + 1)) = y := by rw [fold_step hy, if_pos (by omega)]
theorem fold_s {g : Spn → Spn → Spn} {l : List Spn} {i : Nat} {y : Spn} (hy : l[i]? = some y) (h : ¬ (i : Int) = 0) : foldM g (l.take (i + 1)) = g (foldM g (l.take i)) y := by rw [fold_step hy, if_neg (by omega)]

theorem c_folded (g : Spn → Spn → Spn) (l : List Spn) (a : Option Addr) (c : Nat) (two : Value) (ht : Two two g) (hl : l.length ≤ 4096) : FnV Tryz.prog 308 #[.slice a l.length c, two] [rowI 2 encP l a c] (.tuple #[.agg (encP (foldM g l)).toArray, .bool (decide (0 < l.length))]) := by
 refine FnC.go (m := 28) Tryz.func308 Tryz.ntmps308 rfl (Nat.le_of_ble_eq_true rfl) (fun Lf => ?_)
 refine Wr ?_
 refine OW.alloc (Wn.plain rfl) rfl Tryz.zeroValue403 (by constructor) (fun b1 => ?_)
 refine Oy rfl (Yl.assign rfl) ?_
 refine OW.nil ?_
 refine Wr ?_
 refine OW.alloc (Wn.plain rfl) rfl Tryz.zeroValue403 (by constructor) (fun b2 => ?_)
 refine OW.nil ?_
 refine W.seq ?_
 refine Wr ?_
 refine Oy rfl (Yl.move rfl) ?_
 refine Oy rfl (Yl.len ⟨Tryz.underlying407, Tryz.sizeOf403⟩ rfl) ?_
 refine Oy rfl (Yl.move rfl) ?_
 refine OW.nil ?_
 refine W.block ?_
 refine W.loopS (X := (Nat) × (Spn)) (fun (x : (Nat) × (Spn)) => match x with | (i, o) => (i ≤ l.length ∧ (o = foldM g (l.take i)) : Prop)) (fun (x : (Nat) × (Spn)) => match x with | (i, o) => ([(11, .int .i64 (i : Int))] : Env)) (fun (x : (Nat) × (Spn)) => match x with | (i, o) => ([.cell b2 (encP o) 403] : List Res)) (fun (x : (Nat) × (Spn)) => match x with | (i, o) => (l.length - i : Nat)) (0, ⟨0, 0⟩) [(0, _), (1, _), (4, _), (5, _), (6, _), (9, _), (10, _)] (by simp [foldM]) (Le.cons rfl (Le.cons rfl (Le.cons rfl (Le.cons rfl (Le.cons rfl (Le.cons rfl (Le.cons rfl (Le.cons rfl (Le.nil _))))))))) (by repeat constructor) ?_
 rintro ⟨i, o⟩ ⟨hi, hinv⟩
 show W _ _ _ _ _ _ ([(11, .int .i64 (i : Int))] ++ _) _ ([.cell b2 (encP o) 403] ++ _)
 refine Wr ?_
 refine Oy rfl (Yl.lss rfl rfl) ?_
 refine OW.nil ?_
 refine W.seq ?_
 refine W.cond rfl (fun hq1 => ?_) (fun hq1 => ?_)
 ·have hq1d := of_decide_eq_true hq1
  obtain ⟨y, hy, hdr⟩ := drop_at (l := l) (i := i) (by omega)
  refine W.skip ?_
  refine W.seq ?_
  refine W.block ?_
  refine Wr ?_
  refine Oy rfl (Yl.move rfl) ?_
  refine OW.fact (Sl.isSome (by repeat constructor) (by omega)) ?_
  rintro ⟨p1, hp1⟩; try dsimp only at hp1
  subst hp1
  refine Oy rfl (Yl.indexS i ⟨Tryz.underlying407, Tryz.sizeOf403⟩ rfl rfl rfl (by omega)) ?_
  refine Oy rfl (Yl.loadE ⟨Tryz.isAgg403, Tryz.sizeOf403⟩ rfl (by repeat constructor) (map_at hy)) ?_
  refine OW.alloc (Wn.plain rfl) rfl Tryz.zeroValue403 (by constructor) (fun b3 => ?_)
  refine Oy rfl (Yl.assign rfl) ?_
  refine OW.store (Wn.plain rfl) Tryz.sizeOf403 rfl rfl (by constructor) (by repeat constructor) rfl (by repeat constructor) (by repeat constructor) ?_
  refine OW.nil ?_
  refine Wr ?_
  refine Oy rfl (Yl.move rfl) ?_
  refine Oy rfl (Yl.eql rfl rfl) ?_
  refine OW.nil ?_
  refine W.cond rfl (fun hq2 => ?_) (fun hq2 => ?_)
  ·have hq2d := of_decide_eq_true hq2
   refine W.region ?_
   refine Oy rfl (Yl.load ⟨Tryz.isAgg403, Tryz.sizeOf403⟩ rfl (by repeat constructor) (by repeat constructor)) ?_
   refine OW.store (Wn.plain rfl) Tryz.sizeOf403 rfl rfl (by constructor) (by repeat constructor) rfl (by repeat constructor) (by repeat constructor) ?_
   refine OW.nil ?_
   refine W.region ?_
   refine Oy rfl (Yl.add rfl rfl (by omega)) ?_
   refine Oy rfl (Yl.move rfl) ?_
   refine OW.nil ?_
   refine ⟨(i + 1, y), _, ⟨by omega, ?_⟩, (Le.cons rfl (Le.cons rfl (Le.cons rfl (Le.cons rfl (Le.cons rfl (Le.cons rfl (Le.cons rfl (Le.cons rfl (Le.nil _))))))))), rfl, by repeat constructor, by repeat constructor, by first | omega | (dsimp only; omega)⟩
   rw [fold_0 hy hq2d]
  ·have hq2d := of_decide_eq_false hq2
   refine W.region ?_
   refine Oy rfl (Yl.move rfl) ?_
   refine Oy rfl (Yl.load ⟨Tryz.isAgg403, Tryz.sizeOf403⟩ rfl (by repeat constructor) (by repeat constructor)) ?_
   refine Oy rfl (Yl.load ⟨Tryz.isAgg403, Tryz.sizeOf403⟩ rfl (by repeat constructor) (by repeat constructor)) ?_
   refine OW.call (Wn.plain rfl) rfl rfl rfl (ht _ _) (by repeat constructor) ?_
   rintro _ _ ⟨rfl, rfl⟩
   refine OW.store (Wn.plain rfl) Tryz.sizeOf403 rfl rfl (by constructor) (by repeat constructor) rfl (by repeat constructor) (by repeat constructor) ?_
   refine OW.nil ?_
   refine W.region ?_
   refine Oy rfl (Yl.add rfl rfl (by omega)) ?_
   refine Oy rfl (Yl.move rfl) ?_
   refine OW.nil ?_
   refine ⟨(i + 1, g o y), _, ⟨by omega, ?_⟩, (Le.cons rfl (Le.cons rfl (Le.cons rfl (Le.cons rfl (Le.cons rfl (Le.cons rfl (Le.cons rfl (Le.cons rfl (Le.nil _))))))))), rfl, by repeat constructor, by repeat constructor, by first | omega | (dsimp only; omega)⟩
   rw [fold_s hy hq2d, ← hinv]
 ·have hq1d := of_decide_eq_false hq1
  rw [take_end (by omega)] at hinv
  refine W.exit ?_
  refine Wr ?_
  refine Oy rfl (Yl.load ⟨Tryz.isAgg403, Tryz.sizeOf403⟩ rfl (by repeat constructor) (by repeat constructor)) ?_
  refine Oy rfl (Yl.move rfl) ?_
  refine Oy rfl (Yl.len ⟨Tryz.underlying407, Tryz.sizeOf403⟩ rfl) ?_
  refine Oy rfl (Yl.gtr rfl rfl) ?_
  refine OW.store (Wn.plain rfl) Tryz.sizeOf403 rfl rfl (by constructor) (by repeat constructor) rfl (by repeat constructor) (by repeat constructor) ?_
  refine Oy rfl (Yl.assign rfl) ?_
  refine OW.nil ?_
  refine W.ret ?_
  refine Fin.mk (Rsl.of2 rfl (.cell ⟨Tryz.isAgg403, Tryz.sizeOf403⟩ rfl (by repeat constructor) (by repeat constructor)) (.tmp rfl)) ⟨?_, rfl⟩ (by repeat constructor) (by repeat constructor)
  rw [hinv]; simp [encP]

def togV (g : Spn → Spn → Spn) (l : List Spn) : Value := .tuple [.agg (encP ((togM g l).getD ⟨0, 0⟩)).toArray, .int .i64 (if l.all spanOk then (if (togM g l).isSome then 0 else 9) else 140)].toArray
theorem togV_1 {g : Spn → Spn → Spn} {l : List Spn} (h : l.all spanOk = false) : togV g l = .tuple #[.agg #[.int .i64 0, .int .i64 0], .int .i64 140] := by simp [togV, togM, h, encP]
theorem togV_2 {g : Spn → Spn → Spn} {l : List Spn} (h : l.all spanOk = true) (h0 : 0 < l.length) (h2 : spanOk (foldM g l) = true) : togV g l = .tuple #[.agg (encP (foldM g l)).toArray, .int .i64 0] := by
 have h3 : l.isEmpty = false := by cases l <;> simp_all
 simp [togV, togM, h, h2, h3]
theorem togV_3 {g : Spn → Spn → Spn} {l : List Spn} (h : l.all spanOk = true) (h0 : ¬ (0 < l.length ∧ spanOk (foldM g l) = true)) : togV g l = .tuple #[.agg #[.int .i64 0, .int .i64 0], .int .i64 9] := by
 have h1 : togM g l = none := by
  unfold togM; rw [if_neg]
  intro hc
  simp only [Bool.and_eq_true, Bool.not_eq_true'] at hc
  refine h0 ⟨?_, hc.2⟩
  cases l <;> simp_all
 simp [togV, h1, h, encP]

theorem c_together (g : Spn → Spn → Spn) (l : List Spn) (a : Option Addr) (c : Nat) (two : Value) (ht : Two two g) (hl : l.length ≤ 4096) : FnV Tryz.prog 302 #[.slice a l.length c, two] [rowI 2 encP l a c] (togV g l) := by
 refine FnC.go (m := 47) Tryz.func302 Tryz.ntmps302 rfl (Nat.le_of_ble_eq_true rfl) (fun Lf => ?_)
 refine Wr ?_
 refine OW.alloc (Wn.plain rfl) rfl Tryz.zeroValue194 (by constructor) (fun b1 => ?_)
 refine Oy rfl (Yl.assign rfl) ?_
 refine OW.nil ?_
 refine W.seq ?_
 refine Wr ?_
 refine Oy rfl (Yl.move rfl) ?_
 refine OW.callv (Wn.plain rfl) rfl Tryz.call306 rfl (c_checked l a c hl) (by repeat constructor) ?_
 refine Oy rfl (Yl.assign rfl) ?_
 refine OW.nil ?_
 refine Wr ?_
 refine Oy rfl (Yl.move rfl) ?_
 refine Oy rfl (Yl.neq rfl rfl) ?_
 refine OW.nil ?_
 refine W.cond rfl (fun hq1 => ?_) (fun hq1 => ?_)
 ·have hq1d := of_decide_eq_true hq1
  refine Wr ?_
  refine Oy rfl (Yl.build (is := []) (xs := []) st_194 rfl rfl (by repeat constructor)) ?_
  refine Oy rfl (Yl.move rfl) ?_
  refine OW.store (Wn.plain rfl) Tryz.sizeOf194 rfl rfl (by constructor) (by repeat constructor) rfl (by repeat constructor) (by repeat constructor) ?_
  refine Oy rfl (Yl.assign rfl) ?_
  refine OW.nil ?_
  refine W.ret ?_
  refine Fin.mk (Rsl.of2 rfl (.cell ⟨Tryz.isAgg194, Tryz.sizeOf194⟩ rfl (by repeat constructor) (by repeat constructor)) (.tmp rfl)) ⟨?_, rfl⟩ (by repeat constructor) (by repeat constructor)
  exact (togV_1 (by cases h : l.all spanOk <;> simp_all)).symm ▸ (by simp_all)
 ·have hq1d := of_decide_eq_false hq1
  have hall : l.all spanOk = true := by cases h : l.all spanOk <;> simp_all
  refine W.skip ?_
  refine Wr ?_
  refine Oy rfl (Yl.assign rfl) ?_
  refine OW.nil ?_
  refine W.seq ?_
  refine Wr ?_
  refine Oy rfl (Yl.move rfl) ?_
  refine Oy rfl (Yl.len ⟨Tryz.underlying399, Tryz.sizeOf194⟩ rfl) ?_
  refine Oy rfl (Yl.move rfl) ?_
  refine OW.nil ?_
  refine W.block ?_
  refine W.ent (Ent.new_arr 403 2) ?_
  refine W.loopS (X := (Nat) × (List Spn) × (Option Addr) × (Nat)) (fun (x : (Nat) × (List Spn) × (Option Addr) × (Nat)) => match x with | (i, ys, ra, rc) => (i ≤ l.length ∧ (ys = l.take i) : Prop)) (fun (x : (Nat) × (List Spn) × (Option Addr) × (Nat)) => match x with | (i, ys, ra, rc) => ([(21, .int .i64 (i : Int)), (7, .slice ra ys.length rc)] : Env)) (fun (x : (Nat) × (List Spn) × (Option Addr) × (Nat)) => match x with | (i, ys, ra, rc) => ([rowR 403 2 encP ys ra rc] : List Res)) (fun (x : (Nat) × (List Spn) × (Option Addr) × (Nat)) => match x with | (i, ys, ra, rc) => (l.length - i : Nat)) (0, [], none, 0) [(1, _), (4, _), (5, _), (19, _), (20, _)] (by simp) (Le.cons rfl (Le.cons rfl (Le.cons rfl (Le.cons rfl (Le.cons rfl (Le.cons rfl (Le.cons rfl (Le.nil _)))))))) (by repeat constructor) ?_
  rintro ⟨i, ys, ra, rc⟩ ⟨hi, hinv⟩
  show W _ _ _ _ _ _ ([(21, .int .i64 (i : Int)), (7, .slice ra ys.length rc)] ++ _) _ ([rowR 403 2 encP ys ra rc] ++ _)
  refine Wr ?_
  refine Oy rfl (Yl.lss rfl rfl) ?_
  refine OW.nil ?_
  refine W.seq ?_
  refine W.cond rfl (fun hq2 => ?_) (fun hq2 => ?_)
  ·have hq2d := of_decide_eq_true hq2
   obtain ⟨y, hy, hdr⟩ := drop_at (l := l) (i := i) (by omega)
   have hlt : ys.length = i := by rw [hinv]; simp; omega
   refine W.skip ?_
   refine W.seq ?_
   refine W.block ?_
   refine Wr ?_
   refine OW.fact (Sl.isSome (by repeat constructor) (by omega)) ?_
   rintro ⟨p1, hp1⟩; try dsimp only at hp1
   subst hp1
   refine Oy rfl (Yl.indexS i ⟨Tryz.underlying399, Tryz.sizeOf194⟩ rfl rfl rfl (by omega)) ?_
   refine Oy rfl (Yl.loadE ⟨Tryz.isAgg194, Tryz.sizeOf194⟩ rfl (by repeat constructor) (map_at hy)) ?_
   refine OW.alloc (Wn.plain rfl) rfl Tryz.zeroValue194 (by constructor) (fun b2 => ?_)
   refine OW.store (Wn.plain rfl) Tryz.sizeOf194 rfl rfl (by constructor) (by repeat constructor) rfl (by repeat constructor) (by repeat constructor) ?_
   refine OW.nil ?_
   refine W.region ?_
   refine Oy rfl (Yl.move rfl) ?_
   refine Oy rfl (Yl.load ⟨Tryz.isAgg194, Tryz.sizeOf194⟩ rfl (by repeat constructor) (by repeat constructor)) ?_
   refine OW.callv (Wn.plain rfl) rfl Tryz.call307 rfl (c_spOf _) (by repeat constructor) ?_
   refine OW.lit (is := [0]) (xs := [.tmp 27]) (Wn.plain rfl) rfl rw_407 rfl rfl rfl (by decide) (by repeat constructor) (fun b3 => ?_)
   refine OW.push  (Wn.plain rfl) rfl rw_407 rfl rfl (by repeat constructor) ⟨_, by repeat constructor⟩ (by rfl) (by rfl) (by repeat constructor) (by omega) (by omega) (fun a1 c1 => ?_)
   refine Oy rfl (Yl.assign rfl) ?_
   refine OW.nil ?_
   refine W.region ?_
   refine Oy rfl (Yl.add rfl rfl (by omega)) ?_
   refine Oy rfl (Yl.move rfl) ?_
   refine OW.nil ?_
   refine ⟨(i + 1, ys ++ [y], _, _), _, ⟨by omega, ?_⟩, (Le.cons rfl (Le.cons rfl (Le.cons rfl (Le.cons rfl (Le.cons rfl (Le.cons rfl (Le.cons rfl (Le.nil _)))))))), rfl, by repeat constructor, by repeat constructor, by first | omega | (dsimp only; omega)⟩
   rw [take_at hy, hinv]
  ·have hq2d := of_decide_eq_false hq2
   rw [take_end (by omega)] at hinv
   subst hinv
   refine W.ent (Ent.sealP (f := encP) (by repeat constructor) (fun _ => rfl)) ?_
   refine W.exit ?_
   refine Wr ?_
   refine Oy rfl (Yl.move rfl) ?_
   refine Oy rfl (Yl.move rfl) ?_
   refine OW.callv (Wn.plain rfl) rfl Tryz.call308 rfl (c_folded _ _ _ _ _ (by assumption) (by omega)) (by repeat constructor) ?_
   refine Oy rfl (Yl.move rfl) ?_
   refine Oy rfl (Yl.extract rfl (by repeat constructor)) ?_
   refine Oy rfl (Yl.extract rfl (by repeat constructor)) ?_
   refine OW.alloc (Wn.plain rfl) rfl Tryz.zeroValue403 (by constructor) (fun b4 => ?_)
   refine OW.store (Wn.plain rfl) Tryz.sizeOf403 rfl rfl (by constructor) (by repeat constructor) rfl (by repeat constructor) (by repeat constructor) ?_
   refine Oy rfl (Yl.assign rfl) ?_
   refine OW.nil ?_
   refine W.seq ?_
   refine Wr ?_
   refine Oy rfl (Yl.load ⟨Tryz.isAgg403, Tryz.sizeOf403⟩ rfl (by repeat constructor) (by repeat constructor)) ?_
   refine OW.callv (Wn.plain rfl) rfl Tryz.call309 rfl (c_endsSpan _) (by repeat constructor) ?_
   refine OW.alloc (Wn.plain rfl) rfl Tryz.zeroValue194 (by constructor) (fun b5 => ?_)
   refine OW.store (Wn.plain rfl) Tryz.sizeOf194 rfl rfl (by constructor) (by repeat constructor) rfl (by repeat constructor) (by repeat constructor) ?_
   refine OW.nil ?_
   refine Wr ?_
   refine Oy rfl (Yl.move rfl) ?_
   refine Oy rfl (Yl.move rfl) ?_
   refine OW.split (t := 40) rfl (fun hq3 => ?_) (fun hq3 => ?_)
   ·refine OW.yl (Wn.run rfl rfl rfl hq3) rfl (Yl.load ⟨Tryz.isAgg194, Tryz.sizeOf194⟩ rfl (by repeat constructor) (by repeat constructor)) ?_
    refine OW.callv (Wn.run rfl rfl rfl hq3) rfl Tryz.call279 rfl (c_spCheck _) (by repeat constructor) ?_
    refine OW.yl (Wn.run rfl rfl rfl hq3) rfl (Yl.eql rfl rfl) ?_
    refine Oy rfl (Yl.pick_true rfl hq3 rfl) ?_
    refine OW.nil ?_
    refine W.cond rfl (fun hq4 => ?_) (fun hq4 => ?_)
    ·have hq4d := of_decide_eq_true hq4
     refine Wr ?_
     refine Oy rfl (Yl.load ⟨Tryz.isAgg194, Tryz.sizeOf194⟩ rfl (by repeat constructor) (by repeat constructor)) ?_
     refine OW.store (Wn.plain rfl) Tryz.sizeOf194 rfl rfl (by constructor) (by repeat constructor) rfl (by repeat constructor) (by repeat constructor) ?_
     refine Oy rfl (Yl.assign rfl) ?_
     refine OW.nil ?_
     refine W.ret ?_
     refine Fin.mk (Rsl.of2 rfl (.cell ⟨Tryz.isAgg194, Tryz.sizeOf194⟩ rfl (by repeat constructor) (by repeat constructor)) (.tmp rfl)) ⟨?_, rfl⟩ (by repeat constructor) (by repeat constructor)
     exact (togV_2 hall (of_decide_eq_true hq3) (by cases h : spanOk (foldM g _) <;> simp_all)).symm
    ·have hq4d := of_decide_eq_false hq4
     refine W.skip ?_
     refine Wr ?_
     refine Oy rfl (Yl.build (is := []) (xs := []) st_194 rfl rfl (by repeat constructor)) ?_
     refine OW.store (Wn.plain rfl) Tryz.sizeOf194 rfl rfl (by constructor) (by repeat constructor) rfl (by repeat constructor) (by repeat constructor) ?_
     refine Oy rfl (Yl.assign rfl) ?_
     refine OW.nil ?_
     refine W.ret ?_
     refine Fin.mk (Rsl.of2 rfl (.cell ⟨Tryz.isAgg194, Tryz.sizeOf194⟩ rfl (by repeat constructor) (by repeat constructor)) (.tmp rfl)) ⟨?_, rfl⟩ (by repeat constructor) (by repeat constructor)
     exact (togV_3 hall (fun hc => by simp_all)).symm
   ·refine OW.not (Wn.not rfl rfl rfl hq3) rfl ?_
    refine OW.not (Wn.not rfl rfl rfl hq3) rfl ?_
    refine OW.not (Wn.not rfl rfl rfl hq3) rfl ?_
    refine Oy rfl (Yl.pick_false rfl hq3 rfl) ?_
    refine OW.nil ?_
    refine W.cond_false rfl ?_
    refine W.skip ?_
    refine Wr ?_
    refine Oy rfl (Yl.build (is := []) (xs := []) st_194 rfl rfl (by repeat constructor)) ?_
    refine OW.store (Wn.plain rfl) Tryz.sizeOf194 rfl rfl (by constructor) (by repeat constructor) rfl (by repeat constructor) (by repeat constructor) ?_
    refine Oy rfl (Yl.assign rfl) ?_
    refine OW.nil ?_
    refine W.ret ?_
    refine Fin.mk (Rsl.of2 rfl (.cell ⟨Tryz.isAgg194, Tryz.sizeOf194⟩ rfl (by repeat constructor) (by repeat constructor)) (.tmp rfl)) ⟨?_, rfl⟩ (by repeat constructor) (by repeat constructor)
    exact (togV_3 hall (fun hc => by simp_all)).symm
theorem two_met : Two (.func (.func 303) #[] #[]) metM := fun x y => FnC.tri0 Tryz.call303 (c_met x y)
theorem c_Meet (l : List Spn) (a : Option Addr) (c : Nat) (hl : l.length ≤ 4096) : FnV Tryz.prog 295 #[.slice a l.length c] [rowI 2 encP l a c] (togV metM l) := by
 refine FnC.go (m := 8) Tryz.func295 Tryz.ntmps295 rfl (Nat.le_of_ble_eq_true rfl) (fun Lf => ?_)
 refine Wr ?_
 refine OW.alloc (Wn.plain rfl) rfl Tryz.zeroValue194 (by constructor) (fun b1 => ?_)
 refine Oy rfl (Yl.assign rfl) ?_
 refine OW.nil ?_
 refine Wr ?_
 refine Oy rfl (Yl.move rfl) ?_
 refine OW.callv (Wn.plain rfl) rfl Tryz.call302 rfl (c_together metM l a c _ two_met hl) (by repeat constructor) ?_
 refine Oy rfl (Yl.extract rfl (by repeat constructor)) ?_
 refine Oy rfl (Yl.extract rfl (by repeat constructor)) ?_
 refine OW.store (Wn.plain rfl) Tryz.sizeOf194 rfl rfl (by constructor) (by repeat constructor) rfl (by repeat constructor) (by repeat constructor) ?_
 refine Oy rfl (Yl.assign rfl) ?_
 refine OW.nil ?_
 refine W.ret ?_
 refine Fin.mk (Rsl.of2 rfl (.cell ⟨Tryz.isAgg194, Tryz.sizeOf194⟩ rfl (by repeat constructor) (by repeat constructor)) (.tmp rfl)) ⟨?_, rfl⟩ (by repeat constructor) (by repeat constructor)
 rfl

def midM (s : Spn) : Int := s.Lo + (s.Hi - s.Lo) / 2
theorem spanOk_t {s : Spn} (h : spanOk s = true) : s.Lo ≤ s.Hi := of_decide_eq_true h
def SpB (s : Spn) : Prop := (-9223372036854775808 ≤ s.Lo ∧ s.Lo ≤ 9223372036854775807) ∧ -9223372036854775808 ≤ s.Hi ∧ s.Hi ≤ 9223372036854775807
theorem c_Width (s : Spn) (hs : SpB s) (h : spanOk s = true) : FnV Tryz.prog 280 #[.agg (encP s).toArray] [] (.int .u64 (s.Hi - s.Lo)) := by
 refine FnC.go (m := 13) Tryz.func280 Tryz.ntmps280 rfl (Nat.le_of_ble_eq_true rfl) (fun Lf => ?_)
 have h2 := spanOk_t h
 obtain ⟨⟨k1, k2⟩, k3, k4⟩ := hs
 refine Wr ?_
 refine OW.box (Wn.plain rfl) rfl rfl (by constructor) (fun b1 => ?_)
 refine Oy rfl (Yl.assign rfl) ?_
 refine OW.nil ?_
 refine W.seq ?_
 refine Wr ?_
 refine Oy rfl (Yl.load ⟨Tryz.isAgg194, Tryz.sizeOf194⟩ rfl (by repeat constructor) (by repeat constructor)) ?_
 refine OW.callv (Wn.plain rfl) rfl Tryz.call279 rfl ((c_spCheck s).cast (v' := .int .i64 0) (by simp [h])) (by repeat constructor) ?_
 refine Oy rfl (Yl.neq rfl rfl) ?_
 refine OW.nil ?_
 refine W.cond_f1 rfl (by decide) ?_
 refine W.skip ?_
 refine Wr ?_
 refine Oy rfl (Yl.fieldL 1 (fa_194_1) rfl rfl) ?_
 refine Oy rfl (Yl.load1 Tryz.isAgg2 rfl (by repeat constructor) (by repeat constructor)) ?_
 refine Oy rfl (Yl.conv Tryz.underlying2 Tryz.underlying83 rfl rfl) ?_
 refine Oy rfl (Yl.fieldL 0 (fa_194_0) rfl rfl) ?_
 refine Oy rfl (Yl.load1 Tryz.isAgg2 rfl (by repeat constructor) (by repeat constructor)) ?_
 refine Oy rfl (Yl.conv Tryz.underlying2 Tryz.underlying83 rfl rfl) ?_
 refine Oy rfl (Yl.subW rfl rfl rfl) ?_
 refine Oy rfl (Yl.assign rfl) ?_
 refine OW.nil ?_
 refine W.ret ?_
 refine Fin.mk (Rsl.one rfl rfl) ⟨?_, rfl⟩ (by repeat constructor) (by repeat constructor)
 refine intv ?_
 simp only [IntKind.wrap_u64]; omega
theorem c_Middle (s : Spn) (hs : SpB s) (h : spanOk s = true) : FnV Tryz.prog 237 #[.agg (encP s).toArray] [] (.tuple #[.int .i64 (midM s), .int .i64 0]) := by
 refine FnC.go (m := 18) Tryz.func237 Tryz.ntmps237 rfl (Nat.le_of_ble_eq_true rfl) (fun Lf => ?_)
 have h2 := spanOk_t h
 obtain ⟨⟨k1, k2⟩, k3, k4⟩ := id hs
 refine Wr ?_
 refine OW.box (Wn.plain rfl) rfl rfl (by constructor) (fun b1 => ?_)
 refine Oy rfl (Yl.assign rfl) ?_
 refine Oy rfl (Yl.assign rfl) ?_
 refine OW.nil ?_
 refine W.seq ?_
 refine Wr ?_
 refine Oy rfl (Yl.load ⟨Tryz.isAgg194, Tryz.sizeOf194⟩ rfl (by repeat constructor) (by repeat constructor)) ?_
 refine OW.callv (Wn.plain rfl) rfl Tryz.call279 rfl ((c_spCheck s).cast (v' := .int .i64 0) (by simp [h])) (by repeat constructor) ?_
 refine Oy rfl (Yl.assign rfl) ?_
 refine OW.nil ?_
 refine Wr ?_
 refine Oy rfl (Yl.move rfl) ?_
 refine Oy rfl (Yl.neq rfl rfl) ?_
 refine OW.nil ?_
 refine W.cond_f1 rfl (by decide) ?_
 refine W.skip ?_
 refine W.seq ?_
 refine W.draw mixed ?_
 refine Aq (i := 0) rfl (Wn.plain rfl) rfl (fun _ => Yl.fieldL 0 (fa_194_0) rfl rfl) ?_
 refine Al (i := 1) rfl (Wn.plain rfl) rfl (by repeat constructor) (Yl.load1 Tryz.isAgg2 rfl .head (by repeat constructor)) ?_
 refine Aq (i := 2) rfl (Wn.plain rfl) rfl (fun _ => Yl.conv Tryz.underlying2 Tryz.underlying83 rfl rfl) ?_
 refine Al (i := 3) rfl (Wn.plain rfl) rfl (by repeat constructor) (Yl.load ⟨Tryz.isAgg194, Tryz.sizeOf194⟩ rfl .head (by repeat constructor)) ?_
 refine AW.step (i := 4) rfl (by kernel_rfl) (Wn.plain rfl) rfl (Ex.call rfl rfl rfl (FnC.tri0 Tryz.call280 (c_Width s hs h)) (by repeat constructor)) (.drop (by kernel_rfl) (.keep (by kernel_rfl) .nil)) ?_
 rintro _ _ ⟨_, ⟨rfl, rfl⟩, rfl⟩; refine ⟨by repeat constructor, ?_⟩
 refine Aq (i := 5) rfl (Wn.plain rfl) rfl (fun _ => Yl.quo rfl rfl (by decide) rfl) ?_
 refine Aq (i := 6) rfl (Wn.plain rfl) rfl (fun _ => Yl.addW rfl rfl rfl) ?_
 refine Aq (i := 7) rfl (Wn.plain rfl) rfl (fun _ => Yl.conv Tryz.underlying83 Tryz.underlying2 rfl rfl) ?_
 refine Aq (i := 8) rfl (Wn.plain rfl) rfl (fun _ => Yl.assign rfl) ?_
 refine Aq (i := 9) rfl (Wn.plain rfl) rfl (fun _ => Yl.assign rfl) ?_
 refine AW.done (by kernel_rfl) ?_
 refine W.ret ?_
 refine Fin.mk (Rsl.two rfl rfl rfl) ⟨?_, rfl⟩ (by repeat constructor) (by repeat constructor)
 refine tup2i ?_ rfl
 unfold midM
 simp only [IntKind.wrap_u64, IntKind.wrap_i64]
 rw [Int.tdiv_eq_ediv_of_nonneg (by omega)]; omega
end Go.Yb
