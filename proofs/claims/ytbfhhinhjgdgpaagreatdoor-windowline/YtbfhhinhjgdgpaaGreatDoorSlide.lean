/-
  A part of the proof of windowLine_holds: see the text that holds it. No conditions of its own.
-/
import Derived.Test.YtbfhhinhjgdgpaaGreatDoorSwing
namespace Go.Yb
open Go Go.Proofs Go.RowKit

/-! slide: the fewest lines that go through bands -/
abbrev SS := Slo × Slo
def encSS (s : SS) : List Value := [.int .i64 s.1.N, .int .i64 s.1.D, .int .i64 s.2.N, .int .i64 s.2.D]
def encFt (u : SS) (ta : Option Addr) (m tc : Nat) : List Value := [.int .i64 u.1.N, .int .i64 u.1.D, .int .i64 u.2.N, .int .i64 u.2.D, .slice ta m tc]
def letM (b a : Bnd) : SS := (⟨b.Lo - a.Hi, b.T - a.T⟩, ⟨b.Hi - a.Lo, b.T - a.T⟩)
def letsM (tk : List Bnd) (b : Bnd) : List SS := tk.map (letM b)
def nextStep (u s : SS) : SS := (if cmpL u.1 s.1 < 0 then s.1 else u.1, if cmpL s.2 u.2 < 0 then s.2 else u.2)
def nextM (u : SS) (tk : List Bnd) (b : Bnd) : SS := (letsM tk b).foldl nextStep u
def ftakeM (u : SS) (tk : List Bnd) (b : Bnd) : Option SS := if cmpL (nextM u tk b).2 (nextM u tk b).1 < 0 then none else some (nextM u tk b)
theorem letsM_len (tk : List Bnd) (b : Bnd) : (letsM tk b).length = tk.length := by simp [letsM]
theorem i_lets (tk : List Bnd) (u : SS) (ta : Option Addr) (tc p b1 b2 : Nat) (b : Bnd) (hl : tk.length ≤ 4000) (hok : BndsOk tk) (hb : BndOk b) : Iter Tryz.prog 298 [] [.pointer (some ⟨b1, 0, none⟩), .pointer (some ⟨b2, 0, none⟩)] [.cell b1 [.pointer (some ⟨p, 0, none⟩)] 266, .cell b2 (encB b) 42, .cell p (encFt u ta tk.length tc) 270, rowR 42 3 encB tk ta tc] [.cell p (encFt u ta tk.length tc) 270, rowR 42 3 encB tk ta tc] (letsM tk b) (fun x vs Lx => vs = [.agg (encSS x).toArray] ∧ Lx = []) := by
 intro yv S Sx I R Ix Rx s0 h0 hyld
 refine FnC.go (m := 40) Tryz.func298 Tryz.ntmps298 rfl (Nat.le_of_ble_eq_true rfl) (fun Lf => ?_)
 refine Wr ?_
 refine Oy rfl (Yl.load1 Tryz.isAgg266 rfl (by repeat constructor) (by repeat constructor)) ?_
 refine Oy rfl (Yl.nilCheck rfl) ?_
 refine Oy rfl (Yl.fieldL 4 (fa_270_1) rfl rfl) ?_
 refine Oy rfl (Yl.load1 Tryz.isAgg38 rfl (by repeat constructor) (by repeat constructor)) ?_
 refine Oy rfl (Yl.len ⟨Tryz.underlying38, Tryz.sizeOf42⟩ rfl) ?_
 refine Oy rfl (Yl.move rfl) ?_
 refine OW.nil ?_
 refine W.block ?_
 refine W.loopS (X := (Nat) × (S)) (fun (x : (Nat) × (S)) => match x with | (i, s) => (i ≤ tk.length ∧ (I i s) : Prop)) (fun (x : (Nat) × (S)) => match x with | (i, s) => ([(12, .int .i64 (i : Int))] : Env)) (fun (x : (Nat) × (S)) => match x with | (i, s) => (([.cell b2 (encB b) 42, rowR 42 3 encB tk ta tc, .cell p (encFt u ta tk.length tc) 270] ++ R s) : List Res)) (fun (x : (Nat) × (S)) => match x with | (i, s) => (tk.length - i : Nat)) (0, s0) [(0, _), (2, _), (10, _), (11, _)] (by exact ⟨Nat.zero_le _, h0⟩) (Le.cons rfl (Le.cons rfl (Le.cons rfl (Le.cons rfl (Le.cons rfl (Le.nil _)))))) (by repeat constructor) ?_
 rintro ⟨i, s⟩ ⟨hi, hinv⟩
 show W _ _ _ _ _ _ ([(12, .int .i64 (i : Int))] ++ _) _ (([.cell b2 (encB b) 42, rowR 42 3 encB tk ta tc, .cell p (encFt u ta tk.length tc) 270] ++ R s) ++ _)
 refine Wr ?_
 refine Oy rfl (Yl.lss rfl rfl) ?_
 refine OW.nil ?_
 refine W.seq ?_
 refine W.cond rfl (fun hq1 => ?_) (fun hq1 => ?_)
 ·have hq1d := of_decide_eq_true hq1
  obtain ⟨y, hy, hdr⟩ := drop_at (l := tk) (i := i) (by omega)
  have hby := hok y (List.mem_of_getElem? hy)
  unfold BndOk at hby
  have hbb := hb
  unfold BndOk at hbb
  refine W.skip ?_
  refine W.seq ?_
  refine W.block ?_
  refine Wr ?_
  refine OW.fact (arrR_some (by repeat constructor) (by omega)) ?_
  rintro ⟨p1, rfl⟩
  refine Oy rfl (Yl.indexS i ⟨Tryz.underlying38, Tryz.sizeOf42⟩ rfl rfl rfl (by omega)) ?_
  refine Oy rfl (Yl.loadR ⟨Tryz.isAgg42, Tryz.sizeOf42⟩ rfl (by repeat constructor) hy (fun _ => rfl)) ?_
  refine OW.alloc (Wn.plain rfl) rfl Tryz.zeroValue42 (by constructor) (fun b1 => ?_)
  refine OW.store (Wn.plain rfl) Tryz.sizeOf42 rfl rfl (by constructor) (by repeat constructor) rfl (by repeat constructor) (by repeat constructor) ?_
  refine OW.nil ?_
  refine Wr ?_
  refine Oy rfl (Yl.fieldL 0 (fa_42_0) rfl rfl) ?_
  refine Oy rfl (Yl.load1 Tryz.isAgg2 rfl (by repeat constructor) (by repeat constructor)) ?_
  refine Oy rfl (Yl.fieldL 0 (fa_42_0) rfl rfl) ?_
  refine Oy rfl (Yl.load1 Tryz.isAgg2 rfl (by repeat constructor) (by repeat constructor)) ?_
  refine Oy rfl (Yl.sub rfl rfl (by omega)) ?_
  refine Oy rfl (Yl.assign rfl) ?_
  refine OW.nil ?_
  refine Wr ?_
  refine Oy rfl (Yl.move rfl) ?_
  refine Oy rfl (Yl.fieldL 1 (fa_42_1) rfl rfl) ?_
  refine Oy rfl (Yl.load1 Tryz.isAgg2 rfl (by repeat constructor) (by repeat constructor)) ?_
  refine Oy rfl (Yl.fieldL 2 (fa_42_2) rfl rfl) ?_
  refine Oy rfl (Yl.load1 Tryz.isAgg2 rfl (by repeat constructor) (by repeat constructor)) ?_
  refine Oy rfl (Yl.sub rfl rfl (by omega)) ?_
  refine Oy rfl (Yl.move rfl) ?_
  refine Oy rfl (Yl.build (is := [0, 1]) (xs := [.tmp 26, .tmp 27]) st_146 rfl rfl (by repeat constructor)) ?_
  refine Oy rfl (Yl.fieldL 2 (fa_42_2) rfl rfl) ?_
  refine Oy rfl (Yl.load1 Tryz.isAgg2 rfl (by repeat constructor) (by repeat constructor)) ?_
  refine Oy rfl (Yl.fieldL 1 (fa_42_1) rfl rfl) ?_
  refine Oy rfl (Yl.load1 Tryz.isAgg2 rfl (by repeat constructor) (by repeat constructor)) ?_
  refine Oy rfl (Yl.sub rfl rfl (by omega)) ?_
  refine Oy rfl (Yl.move rfl) ?_
  refine Oy rfl (Yl.build (is := [0, 1]) (xs := [.tmp 33, .tmp 34]) st_146 rfl rfl (by repeat constructor)) ?_
  refine Oy rfl (Yl.buildA (is := [0, 1]) (xs := [.tmp 28, .tmp 35]) ab_268 rfl rfl (by repeat constructor)) ?_
  refine OW.yield (Wn.plain rfl) rfl rfl rfl (by repeat constructor) (by repeat constructor) (hyld i (letM b y) s _ [] (map_at hy) ⟨rfl, rfl⟩ hinv) ?_ ?_
  ·rintro s' hI'
   refine Oy rfl (Yl.not rfl) ?_
   refine OW.nil ?_
   refine W.cond_f1 rfl (bnot_t rfl) ?_
   refine W.skip ?_
   refine W.region ?_
   refine Oy rfl (Yl.add rfl rfl (by omega)) ?_
   refine Oy rfl (Yl.move rfl) ?_
   refine OW.nil ?_
   refine ⟨(i + 1, s'), _, ⟨by omega, ?_⟩, (Le.cons rfl (Le.cons rfl (Le.cons rfl (Le.cons rfl (Le.cons rfl (Le.nil _)))))), rfl, by repeat constructor, by repeat constructor, by first | omega | (dsimp only; omega)⟩
   exact hI'
  ·rintro s' hX
   refine Oy rfl (Yl.not rfl) ?_
   refine OW.nil ?_
   refine W.cond_t1 rfl (bnot_f rfl) ?_
   refine W.ret ?_
   first | exact Fin.mk (Rsl.none rfl) (.inr ⟨_, hX, rfl⟩) (by repeat constructor) (by repeat constructor) | exact Fin.mk (Rsl.none rfl) (.inl ⟨_, hinv, rfl⟩) (by repeat constructor) (by repeat constructor)
 ·have hq1d := of_decide_eq_false hq1
  have hil : i = (letsM tk b).length := by rw [letsM_len]; omega
  subst hil
  refine W.exit ?_
  first | exact Fin.mk (Rsl.none rfl) (.inr ⟨_, hX, rfl⟩) (by repeat constructor) (by repeat constructor) | exact Fin.mk (Rsl.none rfl) (.inl ⟨_, hinv, rfl⟩) (by repeat constructor) (by repeat constructor)
theorem c_lets (p : Nat) (b : Bnd) : FnC Tryz.prog 283 #[.pointer (some ⟨p, 0, none⟩), .agg (encB b).toArray] [] (fun v L' => ∃ b1 b2, v = .func (.func 298) #[] #[.pointer (some ⟨b1, 0, none⟩), .pointer (some ⟨b2, 0, none⟩)] ∧ L' = [.cell b1 [.pointer (some ⟨p, 0, none⟩)] 266, .cell b2 (encB b) 42]) := by
 refine FnC.go (m := 6) Tryz.func283 Tryz.ntmps283 rfl (Nat.le_of_ble_eq_true rfl) (fun Lf => ?_)
 refine Wr ?_
 refine OW.box (Wn.plain rfl) rfl rfl (by constructor) (fun b1 => ?_)
 refine OW.box (Wn.plain rfl) rfl rfl (by constructor) (fun b2 => ?_)
 refine Oy rfl (Yl.assign rfl) ?_
 refine OW.nil ?_
 refine Wr ?_
 refine Oy rfl (Yl.makeFunc rfl rfl) ?_
 refine Oy rfl (Yl.assign rfl) ?_
 refine OW.nil ?_
 refine W.ret ?_
 exact Fin.mk (Rsl.one rfl rfl) ⟨_, _, rfl, rfl⟩ (by repeat constructor) (by repeat constructor)
theorem c_less (a b : Slo) : FnV Tryz.prog 284 #[.agg (encS a).toArray, .agg (encS b).toArray] [] (.bool (decide (cmpL a b < 0))) := by
 refine FnC.go (m := 15) Tryz.func284 Tryz.ntmps284 rfl (Nat.le_of_ble_eq_true rfl) (fun Lf => ?_)
 refine Wr ?_
 refine OW.box (Wn.plain rfl) rfl rfl (by constructor) (fun b1 => ?_)
 refine OW.box (Wn.plain rfl) rfl rfl (by constructor) (fun b2 => ?_)
 refine Oy rfl (Yl.assign rfl) ?_
 refine OW.nil ?_
 refine Wr ?_
 refine Oy rfl (Yl.load ⟨Tryz.isAgg146, Tryz.sizeOf146⟩ rfl (by repeat constructor) (by repeat constructor)) ?_
 refine Oy rfl (Yl.load ⟨Tryz.isAgg146, Tryz.sizeOf146⟩ rfl (by repeat constructor) (by repeat constructor)) ?_
 refine OW.callv (Wn.plain rfl) rfl Tryz.call245 rfl (c_lCompare _ _) (by repeat constructor) ?_
 refine Oy rfl (Yl.move rfl) ?_
 refine Oy rfl (Yl.extract rfl (by repeat constructor)) ?_
 refine Oy rfl (Yl.extract rfl (by repeat constructor)) ?_
 refine Oy rfl (Yl.assign rfl) ?_
 refine Oy rfl (Yl.assign rfl) ?_
 refine OW.nil ?_
 refine Wr ?_
 refine Oy rfl (Yl.move rfl) ?_
 refine Oy rfl (Yl.lss rfl rfl) ?_
 refine Oy rfl (Yl.assign rfl) ?_
 refine OW.nil ?_
 refine W.ret ?_
 refine Fin.mk (Rsl.one rfl rfl) ⟨?_, rfl⟩ (by repeat constructor) (by repeat constructor)
 rfl

theorem next_x {u s : SS} (a b : Slo) (h0 : (if cmpL u.1 s.1 < 0 then s.1 else u.1) = a) (h1 : (if cmpL s.2 u.2 < 0 then s.2 else u.2) = b) : nextStep u s = (a, b) := by simp only [nextStep, h0, h1]
theorem fold_at {α β : Type} {g : β → α → β} {u : β} {l : List α} {k : Nat} {x : α} (h : l[k]? = some x) : (l.take (k + 1)).foldl g u = g ((l.take k).foldl g u) x := by rw [take_at h, List.foldl_append]; rfl
theorem ftake_n {u : SS} {tk : List Bnd} {b : Bnd} (h : cmpL (nextM u tk b).2 (nextM u tk b).1 < 0) : ftakeM u tk b = none := by simp [ftakeM, h]
theorem ftake_y {u : SS} {tk : List Bnd} {b : Bnd} (h : ¬ cmpL (nextM u tk b).2 (nextM u tk b).1 < 0) : ftakeM u tk b = some (nextM u tk b) := by simp [ftakeM, h]
def ftakeU (u : SS) (tk : List Bnd) (b : Bnd) : SS := (ftakeM u tk b).getD u
def ftakeT (u : SS) (tk : List Bnd) (b : Bnd) : List Bnd := if (ftakeM u tk b).isSome then tk ++ [b] else tk

theorem c_ftakes (tk : List Bnd) (u : SS) (ta : Option Addr) (tc p : Nat) (b : Bnd) (hl : tk.length ≤ 4000) (hok : BndsOk tk) (hb : BndOk b) : FnC Tryz.prog 242 #[.pointer (some ⟨p, 0, none⟩), .agg (encB b).toArray] [.cell p (encFt u ta tk.length tc) 270, rowR 42 3 encB tk ta tc] (fun v L' => v = .bool (ftakeM u tk b).isSome ∧ ∃ ta' tc', L' = [.cell p (encFt (ftakeU u tk b) ta' (ftakeT u tk b).length tc') 270, rowR 42 3 encB (ftakeT u tk b) ta' tc']) := by
 refine FnC.go (m := 50) Tryz.func242 Tryz.ntmps242 rfl (Nat.le_of_ble_eq_true rfl) (fun Lf => ?_)
 refine Wr ?_
 refine OW.box (Wn.plain rfl) rfl rfl (by constructor) (fun b1 => ?_)
 refine Oy rfl (Yl.assign rfl) ?_
 refine OW.nil ?_
 refine Wr ?_
 refine Oy rfl (Yl.move rfl) ?_
 refine Oy rfl (Yl.nilCheck rfl) ?_
 refine Oy rfl (Yl.fieldL 0 (fa_270_0) rfl rfl) ?_
 refine Oy rfl (Yl.load ⟨Tryz.isAgg268, Tryz.sizeOf268⟩ rfl (by repeat constructor) (by repeat constructor)) ?_
 refine OW.alloc (Wn.plain rfl) rfl Tryz.zeroValue268 (by constructor) (fun b2 => ?_)
 refine OW.store (Wn.plain rfl) Tryz.sizeOf268 rfl rfl (by constructor) (by repeat constructor) rfl (by repeat constructor) (by repeat constructor) ?_
 refine OW.nil ?_
 refine W.seq ?_
 refine Wr ?_
 refine Oy rfl (Yl.move rfl) ?_
 refine Oy rfl (Yl.load ⟨Tryz.isAgg42, Tryz.sizeOf42⟩ rfl (by repeat constructor) (by repeat constructor)) ?_
 refine OW.call (Wn.plain rfl) rfl rfl rfl (FnC.tri0 Tryz.call283 (c_lets _ _)) (by repeat constructor) ?_
 rintro _ _ ⟨bp, bq, rfl, rfl⟩
 refine OW.nil ?_
 refine W.block ?_
 refine W.rangeF (S := (SS)) (fun (k : Nat) (nx : (SS)) => (nx = ((letsM tk b).take k).foldl nextStep u : Prop)) (fun  (nx : (SS)) => ([.cell b2 (encSS nx) 268] : List Res)) (fun (ex : Exit) (nx : (SS)) => (False : Prop)) (fun  (nx : (SS)) => ([.cell b2 (encSS nx) 268] : List Res)) u rfl Tryz.call298 (i_lets tk u ta tc p _ _ b hl hok hb) (by repeat constructor) (by rfl) rfl (by rintro _ _ _ ⟨rfl, _⟩; rfl) ?_ ?_ ?_
 ·rintro lp k x nx vs Lx hx ⟨rfl, rfl⟩ hI Lf
  show W _ _ _ _ _ _ _ [] ([] ++ [.cell b2 (encSS nx) 268] ++ Lf)
  refine W.region ?_
  refine OW.alloc (Wn.plain rfl) rfl Tryz.zeroValue268 (by constructor) (fun b3 => ?_)
  refine OW.store (Wn.plain rfl) Tryz.sizeOf268 rfl rfl (by constructor) (by repeat constructor) rfl (by repeat constructor) (by repeat constructor) ?_
  refine OW.nil ?_
  refine ⟨rfl, _, by repeat constructor, fun Lf => ?_⟩
  refine W.block ?_
  refine W.seq ?_
  refine Wr ?_
  refine Oy rfl (Yl.indexA (o' := 0) 0 ⟨Tryz.underlying268, Tryz.sizeOf146⟩ rfl rfl rfl (by decide) rfl) ?_
  refine Oy rfl (Yl.load ⟨Tryz.isAgg146, Tryz.sizeOf146⟩ rfl (by repeat constructor) (by repeat constructor)) ?_
  refine Oy rfl (Yl.indexA (o' := 0) 0 ⟨Tryz.underlying268, Tryz.sizeOf146⟩ rfl rfl rfl (by decide) rfl) ?_
  refine Oy rfl (Yl.load ⟨Tryz.isAgg146, Tryz.sizeOf146⟩ rfl (by repeat constructor) (by repeat constructor)) ?_
  refine OW.callv (Wn.plain rfl) rfl Tryz.call284 rfl (c_less _ _) (by repeat constructor) ?_
  refine OW.nil ?_
  refine W.cond rfl (fun hq1 => ?_) (fun hq1 => ?_)
  ·have hq1d := of_decide_eq_true hq1
   refine W.region ?_
   refine Oy rfl (Yl.indexA (o' := 0) 0 ⟨Tryz.underlying268, Tryz.sizeOf146⟩ rfl rfl rfl (by decide) rfl) ?_
   refine Oy rfl (Yl.load ⟨Tryz.isAgg146, Tryz.sizeOf146⟩ rfl (by repeat constructor) (by repeat constructor)) ?_
   refine Oy rfl (Yl.indexA (o' := 0) 0 ⟨Tryz.underlying268, Tryz.sizeOf146⟩ rfl rfl rfl (by decide) rfl) ?_
   refine OW.store (Wn.plain rfl) Tryz.sizeOf146 rfl rfl (by constructor) (by repeat constructor) rfl (by repeat constructor) (by repeat constructor) ?_
   refine OW.nil ?_
   refine Wr ?_
   refine Oy rfl (Yl.indexA (o' := 2) 1 ⟨Tryz.underlying268, Tryz.sizeOf146⟩ rfl rfl rfl (by decide) rfl) ?_
   refine Oy rfl (Yl.load ⟨Tryz.isAgg146, Tryz.sizeOf146⟩ rfl (by repeat constructor) (by repeat constructor)) ?_
   refine Oy rfl (Yl.indexA (o' := 2) 1 ⟨Tryz.underlying268, Tryz.sizeOf146⟩ rfl rfl rfl (by decide) rfl) ?_
   refine Oy rfl (Yl.load ⟨Tryz.isAgg146, Tryz.sizeOf146⟩ rfl (by repeat constructor) (by repeat constructor)) ?_
   refine OW.callv (Wn.plain rfl) rfl Tryz.call284 rfl (c_less _ _) (by repeat constructor) ?_
   refine OW.nil ?_
   refine W.cond rfl (fun hq2 => ?_) (fun hq2 => ?_)
   ·have hq2d := of_decide_eq_true hq2
    refine W.region ?_
    refine Oy rfl (Yl.indexA (o' := 2) 1 ⟨Tryz.underlying268, Tryz.sizeOf146⟩ rfl rfl rfl (by decide) rfl) ?_
    refine Oy rfl (Yl.load ⟨Tryz.isAgg146, Tryz.sizeOf146⟩ rfl (by repeat constructor) (by repeat constructor)) ?_
    refine Oy rfl (Yl.indexA (o' := 2) 1 ⟨Tryz.underlying268, Tryz.sizeOf146⟩ rfl rfl rfl (by decide) rfl) ?_
    refine OW.store (Wn.plain rfl) Tryz.sizeOf146 rfl rfl (by constructor) (by repeat constructor) rfl (by repeat constructor) (by repeat constructor) ?_
    refine OW.nil ?_
    refine ⟨(x.1, x.2), ?_, EntL (by repeat constructor) (by repeat constructor)⟩
    rw [fold_at hx, ← hI]; exact (next_x _ _ (by first | exact if_pos (by assumption) | exact if_neg (by assumption)) (by first | exact if_pos (by assumption) | exact if_neg (by assumption))).symm
   ·have hq2d := of_decide_eq_false hq2
    refine W.skip ?_
    refine ⟨(x.1, nx.2), ?_, EntL (by repeat constructor) (by repeat constructor)⟩
    rw [fold_at hx, ← hI]; exact (next_x _ _ (by first | exact if_pos (by assumption) | exact if_neg (by assumption)) (by first | exact if_pos (by assumption) | exact if_neg (by assumption))).symm
  ·have hq1d := of_decide_eq_false hq1
   refine W.skip ?_
   refine Wr ?_
   refine Oy rfl (Yl.indexA (o' := 2) 1 ⟨Tryz.underlying268, Tryz.sizeOf146⟩ rfl rfl rfl (by decide) rfl) ?_
   refine Oy rfl (Yl.load ⟨Tryz.isAgg146, Tryz.sizeOf146⟩ rfl (by repeat constructor) (by repeat constructor)) ?_
   refine Oy rfl (Yl.indexA (o' := 2) 1 ⟨Tryz.underlying268, Tryz.sizeOf146⟩ rfl rfl rfl (by decide) rfl) ?_
   refine Oy rfl (Yl.load ⟨Tryz.isAgg146, Tryz.sizeOf146⟩ rfl (by repeat constructor) (by repeat constructor)) ?_
   refine OW.callv (Wn.plain rfl) rfl Tryz.call284 rfl (c_less _ _) (by repeat constructor) ?_
   refine OW.nil ?_
   refine W.cond rfl (fun hq3 => ?_) (fun hq3 => ?_)
   ·have hq3d := of_decide_eq_true hq3
    refine W.region ?_
    refine Oy rfl (Yl.indexA (o' := 2) 1 ⟨Tryz.underlying268, Tryz.sizeOf146⟩ rfl rfl rfl (by decide) rfl) ?_
    refine Oy rfl (Yl.load ⟨Tryz.isAgg146, Tryz.sizeOf146⟩ rfl (by repeat constructor) (by repeat constructor)) ?_
    refine Oy rfl (Yl.indexA (o' := 2) 1 ⟨Tryz.underlying268, Tryz.sizeOf146⟩ rfl rfl rfl (by decide) rfl) ?_
    refine OW.store (Wn.plain rfl) Tryz.sizeOf146 rfl rfl (by constructor) (by repeat constructor) rfl (by repeat constructor) (by repeat constructor) ?_
    refine OW.nil ?_
    refine ⟨(nx.1, x.2), ?_, EntL (by repeat constructor) (by repeat constructor)⟩
    rw [fold_at hx, ← hI]; exact (next_x _ _ (by first | exact if_pos (by assumption) | exact if_neg (by assumption)) (by first | exact if_pos (by assumption) | exact if_neg (by assumption))).symm
   ·have hq3d := of_decide_eq_false hq3
    refine W.skip ?_
    refine ⟨(nx.1, nx.2), ?_, EntL (by repeat constructor) (by repeat constructor)⟩
    rw [fold_at hx, ← hI]; exact (next_x _ _ (by first | exact if_pos (by assumption) | exact if_neg (by assumption)) (by first | exact if_pos (by assumption) | exact if_neg (by assumption))).symm
 ·rintro D1 nx hI
  have hfin : nextM u tk b = nx := by unfold nextM; rw [hI, List.take_length]
  refine W.seq ?_
  refine Wr ?_
  refine Oy rfl (Yl.indexA (o' := 2) 1 ⟨Tryz.underlying268, Tryz.sizeOf146⟩ rfl rfl rfl (by decide) rfl) ?_
  refine Oy rfl (Yl.load ⟨Tryz.isAgg146, Tryz.sizeOf146⟩ rfl (by repeat constructor) (by repeat constructor)) ?_
  refine Oy rfl (Yl.indexA (o' := 0) 0 ⟨Tryz.underlying268, Tryz.sizeOf146⟩ rfl rfl rfl (by decide) rfl) ?_
  refine Oy rfl (Yl.load ⟨Tryz.isAgg146, Tryz.sizeOf146⟩ rfl (by repeat constructor) (by repeat constructor)) ?_
  refine OW.callv (Wn.plain rfl) rfl Tryz.call284 rfl (c_less _ _) (by repeat constructor) ?_
  refine OW.nil ?_
  refine W.cond rfl (fun hq4 => ?_) (fun hq4 => ?_)
  ·have hq4d := of_decide_eq_true hq4
   refine Wr ?_
   refine Oy rfl (Yl.assign rfl) ?_
   refine OW.nil ?_
   refine W.ret ?_
   refine Fin.marks [D1] rfl (by repeat constructor) ?_
   have hn := ftake_n (u := u) (tk := tk) (b := b) (by rw [hfin]; exact hq4d)
   have e1 : ftakeU u tk b = u := by simp [ftakeU, hn, hfin]
   have e2 : ftakeT u tk b = tk := by simp [ftakeT, hn]
   rw [hn, e1, e2]
   exact Fin.mk (Rsl.one rfl rfl) ⟨rfl, _, _, rfl⟩ (by repeat constructor) (by repeat constructor)
  ·have hq4d := of_decide_eq_false hq4
   refine W.skip ?_
   refine W.seq ?_
   refine W.draw mixed ?_
   refine Aq (i := 0) rfl (Wn.plain rfl) rfl (fun _ => Yl.move rfl) ?_
   refine Aq (i := 1) rfl (Wn.plain rfl) rfl (fun _ => Yl.move rfl) ?_
   refine Al (i := 2) rfl (Wn.plain rfl) rfl (by repeat constructor) (Yl.load ⟨Tryz.isAgg268, Tryz.sizeOf268⟩ rfl .head (by repeat constructor)) ?_
   refine Aq (i := 3) rfl (Wn.plain rfl) rfl (fun _ => Yl.move rfl) ?_
   refine Aq (i := 4) rfl (Wn.plain rfl) rfl (fun _ => Yl.nilCheck rfl) ?_
   refine Aq (i := 5) rfl (Wn.plain rfl) rfl (fun _ => Yl.fieldL 4 (fa_270_1) rfl rfl) ?_
   refine Al (i := 6) rfl (Wn.plain rfl) rfl (by repeat constructor) (Yl.load1 Tryz.isAgg38 rfl .head (by repeat constructor)) ?_
   refine Al (i := 7) rfl (Wn.plain rfl) rfl (by repeat constructor) (Yl.load ⟨Tryz.isAgg42, Tryz.sizeOf42⟩ rfl .head (by repeat constructor)) ?_
   refine AW.step (i := 8) rfl (by kernel_rfl) (Wn.plain rfl) rfl (Ex.lit (is := [0]) (xs := [.tmp 43]) rw_38 rfl rfl rfl (by decide) (by repeat constructor)) (.drop (by kernel_rfl) (.keep (by kernel_rfl) (.keep (by kernel_rfl) .nil))) ?_
   rintro _ _ ⟨b4, rfl, rfl⟩; refine ⟨by repeat constructor, ?_⟩
   refine AW.step (i := 9) rfl (by kernel_rfl) (Wn.plain rfl) rfl (Ex.push  rw_38 rfl rfl (by repeat constructor) ⟨_, by repeat constructor⟩ (by rfl) (by rfl) (by repeat constructor) (by omega) (by omega)) (.drop (by kernel_rfl) (.keep (by kernel_rfl) .nil)) ?_
   rintro _ _ ⟨a1, c1, rfl, rfl⟩; refine ⟨by repeat constructor, ?_⟩
   refine Aq (i := 10) rfl (Wn.plain rfl) rfl (fun _ => Yl.nilCheck rfl) ?_
   refine Aq (i := 11) rfl (Wn.plain rfl) rfl (fun _ => Yl.fieldL 0 (fa_270_0) rfl rfl) ?_
   refine AW.step (i := 12) rfl (by kernel_rfl) (Wn.plain rfl) rfl (Ex.store Tryz.sizeOf268 rfl rfl (by constructor) (by repeat constructor) rfl (by repeat constructor) (by repeat constructor)) (.drop (by kernel_rfl) .nil) ?_
   rintro _ _ rfl; refine ⟨by repeat constructor, ?_⟩
   refine Aq (i := 13) rfl (Wn.plain rfl) rfl (fun _ => Yl.nilCheck rfl) ?_
   refine Aq (i := 14) rfl (Wn.plain rfl) rfl (fun _ => Yl.fieldL 4 (fa_270_1) rfl rfl) ?_
   refine AW.step (i := 15) rfl (by kernel_rfl) (Wn.plain rfl) rfl (Ex.store Tryz.sizeOf38 rfl rfl (by constructor) (by repeat constructor) rfl (by repeat constructor) (by repeat constructor)) .nil ?_
   rintro _ _ rfl; refine ⟨by repeat constructor, ?_⟩
   refine AW.done (by kernel_rfl) ?_
   refine Wr ?_
   refine Oy rfl (Yl.assign rfl) ?_
   refine OW.nil ?_
   refine W.ret ?_
   refine Fin.marks [D1] rfl (by repeat constructor) ?_
   have hn := ftake_y (u := u) (tk := tk) (b := b) (by rw [hfin]; exact hq4d)
   have e1 : ftakeU u tk b = nx := by simp [ftakeU, hn, hfin]
   have e2 : ftakeT u tk b = tk ++ [b] := by simp [ftakeT, hn]
   rw [hn, e1, e2]
   exact Fin.mk (Rsl.one rfl rfl) ⟨rfl, _, _, rfl⟩ (by repeat constructor) (by repeat constructor)
 ·rintro _ _ _ h; exact h.elim

def all0 : SS := (⟨-4611688217450643456, 1⟩, ⟨4611688217450643456, 1⟩)
def slongM (u : SS) (tk : List Bnd) : List Bnd → SS × List Bnd
  | [] => (u, tk)
  | b :: bs => if (ftakeM u tk b).isSome then slongM (ftakeU u tk b) (ftakeT u tk b) bs else (u, tk)
def sfitM (l : List Bnd) : SS × List Bnd := slongM all0 [] l
theorem slong_y {u : SS} {tk : List Bnd} {b : Bnd} {bs : List Bnd} (h : (ftakeM u tk b).isSome = true) : slongM u tk (b :: bs) = slongM (ftakeU u tk b) (ftakeT u tk b) bs := by simp only [slongM, h, if_true]
theorem slong_n {u : SS} {tk : List Bnd} {b : Bnd} {bs : List Bnd} (h : (ftakeM u tk b).isSome = false) : slongM u tk (b :: bs) = (u, tk) := by simp [slongM, h]
theorem ftakeU_n {u : SS} {tk : List Bnd} {b : Bnd} (h : (ftakeM u tk b).isSome = false) : ftakeU u tk b = u := by unfold ftakeU; cases h2 : ftakeM u tk b <;> simp_all
theorem ftakeT_n {u : SS} {tk : List Bnd} {b : Bnd} (h : (ftakeM u tk b).isSome = false) : ftakeT u tk b = tk := by simp [ftakeT, h]
theorem ftakeT_y {u : SS} {tk : List Bnd} {b : Bnd} (h : (ftakeM u tk b).isSome = true) : ftakeT u tk b = tk ++ [b] := by simp [ftakeT, h]
theorem bnds_push {tk : List Bnd} {b : Bnd} (h : BndsOk tk) (hb : BndOk b) : BndsOk (tk ++ [b]) := fun x hx => by
  rcases List.mem_append.1 hx with hx | hx
  · exact h x hx
  · rw [List.mem_singleton.1 hx]; exact hb
abbrev glob0 : Res := .imm (GlobI 0 (encSS all0))

theorem c_slongest (l : List Bnd) (a : Option Addr) (c : Nat) (hl : l.length ≤ 4000) (hok : BndsOk l) : FnC Tryz.prog 188 #[.slice a l.length c] [rowI 3 encB l a c, glob0] (fun v L' => ∃ p ta tc, v = .pointer (some ⟨p, 0, none⟩) ∧ L' = [.cell p (encFt (sfitM l).1 ta (sfitM l).2.length tc) 270, rowR 42 3 encB (sfitM l).2 ta tc]) := by
 refine FnC.go (m := 21) Tryz.func188 Tryz.ntmps188 rfl (Nat.le_of_ble_eq_true rfl) (fun Lf => ?_)
 refine Wr ?_
 refine Oy rfl (Yl.assign rfl) ?_
 refine OW.nil ?_
 refine W.scope ?_
 refine Wr ?_
 refine Oy rfl (Yl.loadG ⟨Tryz.isAgg268, Tryz.sizeOf268⟩ (by repeat constructor) (by repeat constructor)) ?_
 refine Oy rfl (Yl.build (is := [0]) (xs := [.tmp 6]) st_270 rfl rfl (by repeat constructor)) ?_
 refine OW.box (Wn.plain rfl) rfl rfl (by constructor) (fun b1 => ?_)
 refine Oy rfl (Yl.assign rfl) ?_
 refine OW.nil ?_
 refine W.seq ?_
 refine W.label ?_
 refine W.seq ?_
 refine Wr ?_
 refine Oy rfl (Yl.move rfl) ?_
 refine Oy rfl (Yl.len ⟨Tryz.underlying38, Tryz.sizeOf42⟩ rfl) ?_
 refine Oy rfl (Yl.move rfl) ?_
 refine OW.nil ?_
 refine W.block ?_
 refine W.ent (Ent.new_arr 42 3) ?_
 refine W.loopS (X := (Nat) × (SS) × (List Bnd) × (Option Addr) × (Nat)) (fun (x : (Nat) × (SS) × (List Bnd) × (Option Addr) × (Nat)) => match x with | (i, u, tk, ta, tc) => (i ≤ l.length ∧ (sfitM l = slongM u tk (l.drop i) ∧ tk.length ≤ i ∧ BndsOk tk) : Prop)) (fun (x : (Nat) × (SS) × (List Bnd) × (Option Addr) × (Nat)) => match x with | (i, u, tk, ta, tc) => ([(11, .int .i64 (i : Int))] : Env)) (fun (x : (Nat) × (SS) × (List Bnd) × (Option Addr) × (Nat)) => match x with | (i, u, tk, ta, tc) => ([.cell b1 (encFt u ta tk.length tc) 270, rowR 42 3 encB tk ta tc] : List Res)) (fun (x : (Nat) × (SS) × (List Bnd) × (Option Addr) × (Nat)) => match x with | (i, u, tk, ta, tc) => (l.length - i : Nat)) (0, all0, [], none, 0) [(2, _), (3, _), (9, _), (10, _)] (by exact ⟨Nat.zero_le _, rfl, Nat.le_refl _, fun b hb => by cases hb⟩) (Le.cons rfl (Le.cons rfl (Le.cons rfl (Le.cons rfl (Le.cons rfl (Le.nil _)))))) (by repeat constructor) ?_
 rintro ⟨i, u, tk, ta, tc⟩ ⟨hi, hinv⟩
 show W _ _ _ _ _ _ ([(11, .int .i64 (i : Int))] ++ _) _ ([.cell b1 (encFt u ta tk.length tc) 270, rowR 42 3 encB tk ta tc] ++ _)
 obtain ⟨i1, i2, i3⟩ := hinv
 refine Wr ?_
 refine Oy rfl (Yl.lss rfl rfl) ?_
 refine OW.nil ?_
 refine W.seq ?_
 refine W.cond rfl (fun hq1 => ?_) (fun hq1 => ?_)
 ·have hq1d := of_decide_eq_true hq1
  obtain ⟨y, hy, hdr⟩ := drop_at (l := l) (i := i) (by omega)
  rw [hdr] at i1
  have hby := hok y (List.mem_of_getElem? hy)
  refine W.skip ?_
  refine W.seq ?_
  refine W.block ?_
  refine Wr ?_
  refine OW.fact (Sl.isSome (by repeat constructor) (by omega)) ?_
  rintro ⟨p1, hp1⟩; try dsimp only at hp1
  subst hp1
  refine Oy rfl (Yl.indexS i ⟨Tryz.underlying38, Tryz.sizeOf42⟩ rfl rfl rfl (by omega)) ?_
  refine Oy rfl (Yl.loadE ⟨Tryz.isAgg42, Tryz.sizeOf42⟩ rfl (by repeat constructor) (map_at hy)) ?_
  refine OW.alloc (Wn.plain rfl) rfl Tryz.zeroValue42 (by constructor) (fun b2 => ?_)
  refine OW.store (Wn.plain rfl) Tryz.sizeOf42 rfl rfl (by constructor) (by repeat constructor) rfl (by repeat constructor) (by repeat constructor) ?_
  refine OW.nil ?_
  refine Wr ?_
  refine Oy rfl (Yl.move rfl) ?_
  refine Oy rfl (Yl.load ⟨Tryz.isAgg42, Tryz.sizeOf42⟩ rfl (by repeat constructor) (by repeat constructor)) ?_
  refine OW.call (Wn.plain rfl) rfl rfl rfl (FnC.tri0 Tryz.call242 (c_ftakes tk u ta tc b1 y (by omega) i3 hby)) (by repeat constructor) ?_
  rintro _ _ ⟨rfl, ta', tc', rfl⟩
  refine Oy rfl (Yl.not rfl) ?_
  refine OW.nil ?_
  refine W.cond rfl (fun hq2 => ?_) (fun hq2 => ?_)
  ·have hq2n := not_t hq2
   rw [slong_n hq2n] at i1; rw [ftakeU_n hq2n, ftakeT_n hq2n]
   refine W.exit ?_
   refine Wr ?_
   refine Oy rfl (Yl.move rfl) ?_
   refine Oy rfl (Yl.assign rfl) ?_
   refine OW.nil ?_
   refine W.ret ?_
   rw [show sfitM l = (u, tk) from i1]
   exact Fin.mk (Rsl.one rfl rfl) ⟨_, _, _, rfl, rfl⟩ (by repeat constructor) (by repeat constructor)
  ·have hq2n := not_f hq2
   refine W.skip ?_
   refine W.region ?_
   refine Oy rfl (Yl.add rfl rfl (by omega)) ?_
   refine Oy rfl (Yl.move rfl) ?_
   refine OW.nil ?_
   refine ⟨(i + 1, ftakeU u tk y, ftakeT u tk y, _, _), _, ⟨by omega, ?_⟩, (Le.cons rfl (Le.cons rfl (Le.cons rfl (Le.cons rfl (Le.cons rfl (Le.nil _)))))), rfl, by repeat constructor, by repeat constructor, by first | omega | (dsimp only; omega)⟩
   exact ⟨by rw [i1, slong_y hq2n], by rw [ftakeT_y hq2n]; simp; omega, by rw [ftakeT_y hq2n]; exact bnds_push i3 hby⟩
 ·have hq1d := of_decide_eq_false hq1
  rw [drop_end (by omega)] at i1
  refine W.exit ?_
  refine Wr ?_
  refine Oy rfl (Yl.move rfl) ?_
  refine Oy rfl (Yl.assign rfl) ?_
  refine OW.nil ?_
  refine W.ret ?_
  rw [show sfitM l = (u, tk) from i1]
  exact Fin.mk (Rsl.one rfl rfl) ⟨_, _, _, rfl, rfl⟩ (by repeat constructor) (by repeat constructor)

theorem slong_bd : ∀ (l : List Bnd) (u : SS) (tk : List Bnd), tk.length ≤ (slongM u tk l).2.length ∧ (slongM u tk l).2.length ≤ tk.length + l.length
  | [], u, tk => by simp [slongM]
  | b :: bs, u, tk => by
    cases h : (ftakeM u tk b).isSome
    · rw [slong_n h]; simp
    · rw [slong_y h]
      have := slong_bd bs (ftakeU u tk b) (ftakeT u tk b)
      rw [ftakeT_y h] at this ⊢
      simp at this ⊢; omega
theorem ftake_0 (b : Bnd) : ftakeM all0 [] b = some all0 := by
 have h : nextM all0 [] b = all0 := rfl
 have h2 : cmpL all0.2 all0.1 = 1 := by decide
 rw [ftake_y (by rw [h, h2]; decide), h]
theorem sfit_pos {l : List Bnd} (h : 0 < l.length) : 1 ≤ (sfitM l).2.length := by
 cases l with
 | nil => simp at h
 | cons b bs =>
  unfold sfitM
  have hs : (ftakeM all0 [] b).isSome = true := by rw [ftake_0]; rfl
  rw [slong_y hs]
  have := (slong_bd bs (ftakeU all0 [] b) (ftakeT all0 [] b)).1
  rw [ftakeT_y hs] at this ⊢
  simpa using this
theorem sfit_le (l : List Bnd) : (sfitM l).2.length ≤ l.length := by have := (slong_bd l all0 []).2; unfold sfitM; simpa using this
def cutLF : Nat → List Bnd → List (List Bnd)
  | 0, _ => []
  | _ + 1, [] => []
  | k + 1, b :: bs => (b :: bs).take (sfitM (b :: bs)).2.length :: cutLF k ((b :: bs).drop (sfitM (b :: bs)).2.length)
def cutL (l : List Bnd) : List (List Bnd) := cutLF l.length l
theorem cutLF_enough : ∀ (k j : Nat) (l : List Bnd), l.length ≤ k → l.length ≤ j → cutLF k l = cutLF j l
  | 0, j, l, h, _ => by
    have : l = [] := List.eq_nil_of_length_eq_zero (by omega)
    subst this; cases j <;> rfl
  | k + 1, j, [], _, _ => by cases j <;> rfl
  | k + 1, 0, b :: bs, _, h => by simp at h
  | k + 1, j + 1, b :: bs, h, h' => by
    have hp := sfit_pos (l := b :: bs) (by simp)
    simp only [cutLF]
    rw [cutLF_enough k j _ (by simp at *; omega) (by simp at *; omega)]
theorem cutL_cons {l : List Bnd} (h : 0 < l.length) : cutL l = l.take (sfitM l).2.length :: cutL (l.drop (sfitM l).2.length) := by
 have hp := sfit_pos h
 cases l with
 | nil => simp at h
 | cons b bs =>
  show cutLF (bs.length + 1) (b :: bs) = _
  simp only [cutLF]
  rw [show cutL ((b :: bs).drop (sfitM (b :: bs)).2.length) = cutLF bs.length _ from cutLF_enough _ _ _ (Nat.le_refl _) (by simp; omega)]

theorem c_lCut1 (l : List Bnd) (a : Option Addr) (c b p : Nat) (ta : Option Addr) (tc : Nat) (hl : l.length ≤ 4000) (hok : BndsOk l) : FnC Tryz.prog 187 #[.pointer (some ⟨p, 0, none⟩), .pointer (some ⟨b, 0, none⟩)] [.cell b [.slice a l.length c] 38, rowI 3 encB l a c, glob0, .cell p (encFt (sfitM l).1 ta (sfitM l).2.length tc) 270, rowR 42 3 encB (sfitM l).2 ta tc] (RetRowE 1 encN (lens (cutL l))) := by
 refine FnC.go (m := 31) Tryz.func187 Tryz.ntmps187 rfl (Nat.le_of_ble_eq_true rfl) (fun Lf => ?_)
 refine Wr ?_
 refine Oy rfl (Yl.assign rfl) ?_
 refine Oy rfl (Yl.assign rfl) ?_
 refine OW.nil ?_
 refine Wr ?_
 refine Oy rfl (Yl.assign rfl) ?_
 refine OW.nil ?_
 refine W.seq ?_
 refine Wr ?_
 refine Oy rfl (Yl.load1 Tryz.isAgg38 rfl (by repeat constructor) (by repeat constructor)) ?_
 refine Oy rfl (Yl.assign rfl) ?_
 refine OW.nil ?_
 refine W.block ?_
 refine W.ent (Ent.new_arr 3 1) ?_
 refine W.loopS (X := (List Bnd) × (Option Addr) × (Nat) × (List Nat) × (Option Addr) × (Nat) × (Nat) × (Option Addr) × (Nat)) (fun (x : (List Bnd) × (Option Addr) × (Nat) × (List Nat) × (Option Addr) × (Nat) × (Nat) × (Option Addr) × (Nat)) => match x with | (r, ra, rc, ys, oa, oc, q, va, vc) => (ys ++ lens (cutL r) = lens (cutL l) ∧ BndsOk r ∧ ys.length + r.length ≤ l.length : Prop)) (fun (x : (List Bnd) × (Option Addr) × (Nat) × (List Nat) × (Option Addr) × (Nat) × (Nat) × (Option Addr) × (Nat)) => match x with | (r, ra, rc, ys, oa, oc, q, va, vc) => ([(0, .pointer (some ⟨q, 0, none⟩)), (5, .slice oa ys.length oc), (6, .slice ra r.length rc)] : Env)) (fun (x : (List Bnd) × (Option Addr) × (Nat) × (List Nat) × (Option Addr) × (Nat) × (Nat) × (Option Addr) × (Nat)) => match x with | (r, ra, rc, ys, oa, oc, q, va, vc) => ([.cell q (encFt (sfitM r).1 va (sfitM r).2.length vc) 270, rowR 42 3 encB (sfitM r).2 va vc, rowI 3 encB r ra rc, rowR 3 1 encN ys oa oc] : List Res)) (fun (x : (List Bnd) × (Option Addr) × (Nat) × (List Nat) × (Option Addr) × (Nat) × (Nat) × (Option Addr) × (Nat)) => match x with | (r, ra, rc, ys, oa, oc, q, va, vc) => (r.length : Nat)) (l, a, c, [], none, 0, p, ta, tc) [(3, _), (4, _)] (by exact ⟨rfl, hok, by simp⟩) (Le.cons rfl (Le.cons rfl (Le.cons rfl (Le.cons rfl (Le.cons rfl (Le.nil _)))))) (by repeat constructor) ?_
 rintro ⟨r, ra, rc, ys, oa, oc, q, va, vc⟩ hinv
 show W _ _ _ _ _ _ ([(0, .pointer (some ⟨q, 0, none⟩)), (5, .slice oa ys.length oc), (6, .slice ra r.length rc)] ++ _) _ ([.cell q (encFt (sfitM r).1 va (sfitM r).2.length vc) 270, rowR 42 3 encB (sfitM r).2 va vc, rowI 3 encB r ra rc, rowR 3 1 encN ys oa oc] ++ _)
 obtain ⟨i1, i2, i3⟩ := hinv
 refine W.seq ?_
 refine Wr ?_
 refine Oy rfl (Yl.move rfl) ?_
 refine Oy rfl (Yl.len ⟨Tryz.underlying38, Tryz.sizeOf42⟩ rfl) ?_
 refine Oy rfl (Yl.gtr rfl rfl) ?_
 refine OW.nil ?_
 refine W.cond rfl (fun hq1 => ?_) (fun hq1 => ?_)
 ·have hq1d := of_decide_eq_true hq1
  have hpos := sfit_pos (l := r) (by omega)
  have hle := sfit_le r
  have hcc := cutL_cons (l := r) (by omega)
  refine W.skip ?_
  refine W.seq ?_
  refine W.block ?_
  refine Wr ?_
  refine Oy rfl (Yl.move rfl) ?_
  refine Oy rfl (Yl.nilCheck rfl) ?_
  refine Oy rfl (Yl.fieldL 4 (fa_270_1) rfl rfl) ?_
  refine Oy rfl (Yl.load1 Tryz.isAgg38 rfl (by repeat constructor) (by repeat constructor)) ?_
  refine Oy rfl (Yl.len ⟨Tryz.underlying38, Tryz.sizeOf42⟩ rfl) ?_
  refine Oy rfl (Yl.assign rfl) ?_
  refine OW.nil ?_
  refine Wr ?_
  refine Oy rfl (Yl.move rfl) ?_
  refine Oy rfl (Yl.move rfl) ?_
  refine OW.lit (is := [0]) (xs := [.tmp 20]) (Wn.plain rfl) rfl rw_70 rfl rfl rfl (by decide) (by repeat constructor) (fun b1 => ?_)
  refine OW.push  (Wn.plain rfl) rfl rw_70 rfl rfl (by repeat constructor) ⟨_, by repeat constructor⟩ (by rfl) (by rfl) (by repeat constructor) (by omega) (by omega) (fun a1 c1 => ?_)
  refine Oy rfl (Yl.assign rfl) ?_
  refine OW.nil ?_
  refine W.region ?_
  refine Oy rfl (Yl.move rfl) ?_
  refine Oy rfl (Yl.move rfl) ?_
  refine Oy rfl (Yl.move rfl) ?_
  refine Oy rfl (Yl.len ⟨Tryz.underlying38, Tryz.sizeOf42⟩ rfl) ?_
  refine Oy rfl (Yl.move rfl) ?_
  refine Oy rfl (Yl.len ⟨Tryz.underlying38, Tryz.sizeOf42⟩ rfl) ?_
  refine OW.cutM (l := (sfitM r).2.length) (h := r.length) (q := r.length) (r.drop (sfitM r).2.length) (Wn.plain rfl) rfl ⟨Tryz.underlying38, Tryz.sizeOf42⟩ rfl (.some rfl (rfl)) (.some rfl (rfl)) (.some rfl (rfl)) rfl (by repeat constructor) (by rw [List.take_of_length_le (by simp)]) (by omega) (by omega) (by omega) (by omega) (fun a2 c2 => ?_)
  refine Oy rfl (Yl.assign rfl) ?_
  refine OW.nil ?_
  refine W.region ?_
  refine Oy rfl (Yl.move rfl) ?_
  refine OW.call (Wn.plain rfl) rfl rfl rfl (FnC.tri0 Tryz.call188 (c_slongest (r.drop (sfitM r).2.length) _ _ (by simp; omega) (bnds_drop i2 _))) (by repeat constructor) ?_
  rintro _ _ ⟨p', ta', tc', rfl, rfl⟩
  refine Oy rfl (Yl.assign rfl) ?_
  refine OW.nil ?_
  refine ⟨(r.drop (sfitM r).2.length, _, _, ys ++ [(sfitM r).2.length], _, _, _, _, _), _, ?_, (Le.cons rfl (Le.cons rfl (Le.cons rfl (Le.cons rfl (Le.cons rfl (Le.nil _)))))), rfl, by repeat constructor, by repeat constructor, by simp; omega⟩
  exact ⟨by rw [← i1, hcc, lens_cons]; simp; omega, bnds_drop i2 _, by simp; omega⟩
 ·have hq1d := of_decide_eq_false hq1
  have hr0 : r = [] := List.eq_nil_of_length_eq_zero (by omega)
  subst hr0
  rw [show lens (cutL []) = [] from rfl, List.append_nil] at i1
  refine W.exit ?_
  refine Wr ?_
  refine Oy rfl (Yl.move rfl) ?_
  refine Oy rfl (Yl.assign rfl) ?_
  refine Oy rfl (Yl.assign rfl) ?_
  refine OW.nil ?_
  refine W.ret ?_
  rw [← i1]
  refine Fin.ent (Ent.sealP (f := encN) (E := 3) (sz := 1) (by repeat constructor) (fun _ => rfl)) ?_
  exact Fin.mk (Rsl.two rfl rfl rfl) ⟨_, _, rfl, rfl⟩ (by repeat constructor) (by repeat constructor)
theorem c_ltellsCut (l : List Bnd) (a : Option Addr) (c b : Nat) (hl : bandsM l = true) : FnC Tryz.prog 186 #[.slice a l.length c, .func (.func 187) #[] #[.pointer (some ⟨b, 0, none⟩)]] [.cell b [.slice a l.length c] 38, rowI 3 encB l a c, glob0] (RetRowE 1 encN (lens (cutL l))) := by
 refine FnC.go (m := 20) Tryz.func186 Tryz.ntmps186 rfl (Nat.le_of_ble_eq_true rfl) (fun Lf => ?_)
 have hlen := bandsM_len hl
 have hok := bnds_ok hl
 refine Wr ?_
 refine Oy rfl (Yl.assign rfl) ?_
 refine Oy rfl (Yl.assign rfl) ?_
 refine OW.nil ?_
 refine Wr ?_
 refine Oy rfl (Yl.assign rfl) ?_
 refine OW.nil ?_
 refine W.seq ?_
 refine Wr ?_
 refine Oy rfl (Yl.move rfl) ?_
 refine OW.callv (Wn.plain rfl) rfl Tryz.call183 rfl ((c_pCheck l _ _).cast (v' := .int .i64 0) (by simp [hl])) (by repeat constructor) ?_
 refine Oy rfl (Yl.assign rfl) ?_
 refine OW.nil ?_
 refine Wr ?_
 refine Oy rfl (Yl.move rfl) ?_
 refine Oy rfl (Yl.neq rfl rfl) ?_
 refine OW.nil ?_
 refine W.cond_f1 rfl (by decide) ?_
 refine W.skip ?_
 refine Wr ?_
 refine Oy rfl (Yl.move rfl) ?_
 refine Oy rfl (Yl.move rfl) ?_
 refine OW.call (Wn.plain rfl) rfl rfl rfl (FnC.tri0 Tryz.call188 (c_slongest l _ _ (by omega) hok)) (by repeat constructor) ?_
 rintro _ _ ⟨p, ta, tc, rfl, rfl⟩
 refine OW.call (Wn.plain rfl) rfl rfl rfl (FnC.triC Tryz.call187 (c_lCut1 l a c b p ta tc (by omega) hok)) (by repeat constructor) ?_
 rintro _ _ ⟨ra, rc, rfl, rfl⟩
 refine Oy rfl (Yl.extract rfl (by repeat constructor)) ?_
 refine Oy rfl (Yl.extract rfl (by repeat constructor)) ?_
 refine Oy rfl (Yl.assign rfl) ?_
 refine Oy rfl (Yl.assign rfl) ?_
 refine OW.nil ?_
 refine W.ret ?_
 exact Fin.mk (Rsl.two rfl rfl rfl) ⟨_, _, rfl, rfl⟩ (by repeat constructor) (by repeat constructor)
theorem c_lCut (l : List Bnd) (a : Option Addr) (c : Nat) (hl : bandsM l = true) : FnC Tryz.prog 119 #[.slice a l.length c] [rowI 3 encB l a c, glob0] (RetRowE 1 encN (lens (cutL l))) := by
 refine FnC.go (m := 9) Tryz.func119 Tryz.ntmps119 rfl (Nat.le_of_ble_eq_true rfl) (fun Lf => ?_)
 refine Wr ?_
 refine OW.box (Wn.plain rfl) rfl rfl (by constructor) (fun b1 => ?_)
 refine Oy rfl (Yl.assign rfl) ?_
 refine Oy rfl (Yl.assign rfl) ?_
 refine OW.nil ?_
 refine Wr ?_
 refine Oy rfl (Yl.load1 Tryz.isAgg38 rfl (by repeat constructor) (by repeat constructor)) ?_
 refine Oy rfl (Yl.makeFunc rfl rfl) ?_
 refine OW.call (Wn.plain rfl) rfl rfl rfl (FnC.tri0 Tryz.call186 (c_ltellsCut l a c _ hl)) (by repeat constructor) ?_
 rintro _ _ ⟨ra, rc, rfl, rfl⟩
 refine Oy rfl (Yl.extract rfl (by repeat constructor)) ?_
 refine Oy rfl (Yl.extract rfl (by repeat constructor)) ?_
 refine Oy rfl (Yl.assign rfl) ?_
 refine Oy rfl (Yl.assign rfl) ?_
 refine OW.nil ?_
 refine W.ret ?_
 exact Fin.mk (Rsl.two rfl rfl rfl) ⟨_, _, rfl, rfl⟩ (by repeat constructor) (by repeat constructor)

def nOf (s : Slo) (t0 : Int) (a : Bnd) : Int := a.Lo * s.D - s.N * (a.T - t0)
def t0M (tk : List Bnd) : Int := match tk with | [] => 0 | z :: _ => z.T
def lowA (s : Slo) (t0 : Int) : List Bnd → Int
  | [] => 0
  | x :: xs => xs.foldl (fun c a => if c < nOf s t0 a then nOf s t0 a else c) (nOf s t0 x)
def lowW (s : Slo) (tk : List Bnd) : Int := lowA s (t0M tk) tk
theorem lowA_step {s : Slo} {t0 : Int} {tk : List Bnd} {i : Nat} {y : Bnd} (hy : tk[i]? = some y) : lowA s t0 (tk.take (i + 1)) = if i = 0 then nOf s t0 y else if lowA s t0 (tk.take i) < nOf s t0 y then nOf s t0 y else lowA s t0 (tk.take i) := by
 rw [take_at hy]
 cases i with
 | zero => simp [lowA]
 | succ i =>
  cases tk with
  | nil => simp at hy
  | cons x xs => simp [lowA]; rfl
theorem t0M_at {tk : List Bnd} {z : Bnd} (h : tk[0]? = some z) : t0M tk = z.T := by cases tk <;> simp_all [t0M]
theorem mul_bd {a b : Int} (X Y : Nat) (ha : a.natAbs ≤ X) (hb : b.natAbs ≤ Y) : -((X * Y : Nat) : Int) ≤ a * b ∧ a * b ≤ ((X * Y : Nat) : Int) := by
 have h : a.natAbs * b.natAbs ≤ X * Y := Nat.mul_le_mul ha hb
 have h2 : (a * b).natAbs = a.natAbs * b.natAbs := Int.natAbs_mul a b
 omega
theorem low_in {s : Slo} {y z : Bnd} (hs : slopeM s = true) (hy : BndOk y) (hz : BndOk z) : InW (y.Lo * s.D) ∧ InW (s.N * (y.T - z.T)) ∧ InW (y.Lo * s.D - s.N * (y.T - z.T)) := by
 have h := slopeM_t hs
 unfold BndOk at hy hz
 have h1 := mul_bd (a := y.Lo) (b := s.D) 2305844108725321728 281474976710656 (by omega) (by omega)
 have h2 := mul_bd (a := s.N) (b := y.T - z.T) 4611688217450643456 281474976710656 (by omega) (by omega)
 unfold InW
 omega

theorem c_low (tk : List Bnd) (u : SS) (ta : Option Addr) (tc p : Nat) (s : Slo) (hl : tk.length ≤ 4000) (hok : BndsOk tk) (hs : slopeM s = true) : FnC Tryz.prog 193 #[.pointer (some ⟨p, 0, none⟩), .agg (encS s).toArray] [.cell p (encFt u ta tk.length tc) 270, rowR 42 3 encB tk ta tc] (fun v L' => v = .agg (encW (lowW s tk)).toArray ∧ L' = [.cell p (encFt u ta tk.length tc) 270, rowR 42 3 encB tk ta tc]) := by
 refine FnC.go (m := 53) Tryz.func193 Tryz.ntmps193 rfl (Nat.le_of_ble_eq_true rfl) (fun Lf => ?_)
 refine Wr ?_
 refine OW.box (Wn.plain rfl) rfl rfl (by constructor) (fun b1 => ?_)
 refine OW.alloc (Wn.plain rfl) rfl Tryz.zeroValue85 (by constructor) (fun b2 => ?_)
 refine OW.nil ?_
 refine Wr ?_
 refine OW.alloc (Wn.plain rfl) rfl Tryz.zeroValue85 (by constructor) (fun b3 => ?_)
 refine OW.nil ?_
 refine W.seq ?_
 refine Wr ?_
 refine Oy rfl (Yl.move rfl) ?_
 refine Oy rfl (Yl.nilCheck rfl) ?_
 refine Oy rfl (Yl.fieldL 4 (fa_270_1) rfl rfl) ?_
 refine Oy rfl (Yl.load1 Tryz.isAgg38 rfl (by repeat constructor) (by repeat constructor)) ?_
 refine Oy rfl (Yl.len ⟨Tryz.underlying38, Tryz.sizeOf42⟩ rfl) ?_
 refine Oy rfl (Yl.move rfl) ?_
 refine OW.nil ?_
 refine W.block ?_
 refine W.loopS (X := (Nat) × (Int)) (fun (x : (Nat) × (Int)) => match x with | (i, o) => (i ≤ tk.length ∧ (o = lowA s (t0M tk) (tk.take i)) : Prop)) (fun (x : (Nat) × (Int)) => match x with | (i, o) => ([(15, .int .i64 (i : Int))] : Env)) (fun (x : (Nat) × (Int)) => match x with | (i, o) => ([.cell b3 (encW o) 85] : List Res)) (fun (x : (Nat) × (Int)) => match x with | (i, o) => (tk.length - i : Nat)) (0, 0) [(0, _), (3, _), (4, _), (5, _), (13, _), (14, _)] (by exact ⟨Nat.zero_le _, rfl⟩) (Le.cons rfl (Le.cons rfl (Le.cons rfl (Le.cons rfl (Le.cons rfl (Le.cons rfl (Le.cons rfl (Le.nil _)))))))) (by repeat constructor) ?_
 rintro ⟨i, o⟩ ⟨hi, hinv⟩
 show W _ _ _ _ _ _ ([(15, .int .i64 (i : Int))] ++ _) _ ([.cell b3 (encW o) 85] ++ _)
 refine Wr ?_
 refine Oy rfl (Yl.lss rfl rfl) ?_
 refine OW.nil ?_
 refine W.seq ?_
 refine W.cond rfl (fun hq1 => ?_) (fun hq1 => ?_)
 ·have hq1d := of_decide_eq_true hq1
  obtain ⟨y, hy, hdr⟩ := drop_at (l := tk) (i := i) (by omega)
  have hby := hok y (List.mem_of_getElem? hy)
  obtain ⟨z, hz⟩ : ∃ z, tk[0]? = some z := ⟨_, List.getElem?_eq_getElem (by omega)⟩
  have hbz := hok z (List.mem_of_getElem? hz)
  obtain ⟨w1, w2, w3⟩ := low_in hs hby hbz
  have hss := slopeM_t hs
  have hb1 := hby
  have hb2 := hbz
  unfold BndOk at hb1 hb2
  refine W.skip ?_
  refine W.seq ?_
  refine W.block ?_
  refine Wr ?_
  refine Oy rfl (Yl.move rfl) ?_
  refine OW.fact (arrR_some (by repeat constructor) (by omega)) ?_
  rintro ⟨p1, rfl⟩
  refine Oy rfl (Yl.indexS i ⟨Tryz.underlying38, Tryz.sizeOf42⟩ rfl rfl rfl (by omega)) ?_
  refine Oy rfl (Yl.loadR ⟨Tryz.isAgg42, Tryz.sizeOf42⟩ rfl (by repeat constructor) hy (fun _ => rfl)) ?_
  refine OW.alloc (Wn.plain rfl) rfl Tryz.zeroValue42 (by constructor) (fun b4 => ?_)
  refine Oy rfl (Yl.assign rfl) ?_
  refine OW.store (Wn.plain rfl) Tryz.sizeOf42 rfl rfl (by constructor) (by repeat constructor) rfl (by repeat constructor) (by repeat constructor) ?_
  refine OW.nil ?_
  refine W.seqS (X := (Nat)) (R0 := []) (fun (b8 : (Nat)) => (True : Prop)) (fun (b8 : (Nat)) => ([(8, .pointer (some ⟨b8, 0, none⟩))] : Env)) (fun (b8 : (Nat)) => ([.cell b8 (encW (nOf s z.T y)) 85] : List Res)) [(0, _), (3, _), (4, _), (5, _), (6, _), (13, _), (14, _), (15, _)] (Le.cons rfl (Le.cons rfl (Le.cons rfl (Le.cons rfl (Le.cons rfl (Le.cons rfl (Le.cons rfl (Le.cons rfl (Le.nil _))))))))) (by repeat constructor) ?_ ?_
  ·refine W.draw mixed ?_
   refine Aq (i := 0) rfl (Wn.plain rfl) rfl (fun _ => Yl.fieldL 1 (fa_42_1) rfl rfl) ?_
   refine Al (i := 1) rfl (Wn.plain rfl) rfl (by repeat constructor) (Yl.load1 Tryz.isAgg2 rfl .head (by repeat constructor)) ?_
   refine Aq (i := 2) rfl (Wn.plain rfl) rfl (fun _ => Yl.fieldL 1 (fa_146_1) rfl rfl) ?_
   refine Al (i := 3) rfl (Wn.plain rfl) rfl (by repeat constructor) (Yl.load1 Tryz.isAgg2 rfl .head (by repeat constructor)) ?_
   refine Aq (i := 5) rfl (Wn.plain rfl) rfl (fun _ => Yl.fieldL 0 (fa_146_0) rfl rfl) ?_
   refine Al (i := 6) rfl (Wn.plain rfl) rfl (by repeat constructor) (Yl.load1 Tryz.isAgg2 rfl .head (by repeat constructor)) ?_
   refine Aq (i := 7) rfl (Wn.plain rfl) rfl (fun _ => Yl.fieldL 0 (fa_42_0) rfl rfl) ?_
   refine Al (i := 8) rfl (Wn.plain rfl) rfl (by repeat constructor) (Yl.load1 Tryz.isAgg2 rfl .head (by repeat constructor)) ?_
   refine Aq (i := 9) rfl (Wn.plain rfl) rfl (fun _ => Yl.move rfl) ?_
   refine Aq (i := 10) rfl (Wn.plain rfl) rfl (fun _ => Yl.nilCheck rfl) ?_
   refine Aq (i := 11) rfl (Wn.plain rfl) rfl (fun _ => Yl.fieldL 4 (fa_270_1) rfl rfl) ?_
   refine Al (i := 12) rfl (Wn.plain rfl) rfl (by repeat constructor) (Yl.load1 Tryz.isAgg38 rfl .head (by repeat constructor)) ?_
   refine Aq (i := 13) rfl (Wn.plain rfl) rfl (fun _ => Yl.indexS 0 ⟨Tryz.underlying38, Tryz.sizeOf42⟩ rfl rfl rfl (by omega)) ?_
   refine Aq (i := 14) rfl (Wn.plain rfl) rfl (fun _ => Yl.fieldA (fa_42_0) rfl) ?_
   refine Al (i := 15) rfl (Wn.plain rfl) rfl (by repeat constructor) (Yl.loadR1 Tryz.isAgg2 rfl .head hz (by intro _; rfl) (by repeat constructor)) ?_
   refine Aq (i := 16) rfl (Wn.plain rfl) rfl (fun _ => Yl.sub rfl rfl (by omega)) ?_
   refine AW.two 4 22 (by kernel_rfl) ?_ ?_
   ·refine AWi.step (i := 4) rfl (Wn.plain rfl) rfl (Ex.call rfl rfl rfl (FnC.tri0 Tryz.call95 (c_Mul _ _ (by omega) (by omega) (by omega) (by omega))) (by repeat constructor)) (.keep (by kernel_rfl) (.keep (by kernel_rfl) (.keep (by kernel_rfl) (.keep (by kernel_rfl) (.drop (by kernel_rfl) (.drop (by kernel_rfl) .nil)))))) ?_
    rintro _ _ ⟨_, ⟨rfl, rfl⟩, rfl⟩; refine ⟨by repeat constructor, ?_⟩
    refine AW.two 17 22 (by kernel_rfl) ?_ ?_
    ·refine AWi.step (i := 17) rfl (Wn.plain rfl) rfl (Ex.call rfl rfl rfl (FnC.tri0 Tryz.call95 (c_Mul _ _ (by omega) (by omega) (by omega) (by omega))) (by repeat constructor)) (.keep (by kernel_rfl) (.keep (by kernel_rfl) (.keep (by kernel_rfl) (.drop (by kernel_rfl) .nil)))) ?_
     rintro _ _ ⟨_, ⟨rfl, rfl⟩, rfl⟩; refine ⟨by repeat constructor, ?_⟩
     refine AW.two 18 22 (by kernel_rfl) ?_ ?_
     ·refine AWi.step (i := 18) rfl (Wn.plain rfl) rfl (Ex.call rfl rfl rfl (FnC.tri0 Tryz.call247 (c_Sub _ _ w1 w2 w3)) (by repeat constructor)) (.keep (by kernel_rfl) (.keep (by kernel_rfl) (.keep (by kernel_rfl) .nil))) ?_
      rintro _ _ ⟨_, ⟨rfl, rfl⟩, rfl⟩; refine ⟨by repeat constructor, ?_⟩
      refine Aq (i := 19) rfl (Wn.plain rfl) rfl (fun _ => Yl.move rfl) ?_
      refine Aq (i := 20) rfl (Wn.plain rfl) rfl (fun _ => Yl.extract rfl (by repeat constructor)) ?_
      refine Aq (i := 21) rfl (Wn.plain rfl) rfl (fun _ => Yl.extract rfl (by repeat constructor)) ?_
      refine AW.step (i := 22) rfl (by kernel_rfl) (Wn.plain rfl) rfl (Ex.alloc Tryz.zeroValue85 (by constructor)) (.keep (by kernel_rfl) (.keep (by kernel_rfl) (.keep (by kernel_rfl) .nil))) ?_
      rintro _ _ ⟨b5, rfl, rfl⟩; refine ⟨by repeat constructor, ?_⟩
      refine AW.step (i := 23) rfl (by kernel_rfl) (Wn.plain rfl) rfl (Ex.store Tryz.sizeOf85 rfl rfl (by constructor) (by repeat constructor) rfl (by repeat constructor) (by repeat constructor)) (.drop (by kernel_rfl) (.drop (by kernel_rfl) (.drop (by kernel_rfl) .nil))) ?_
      rintro _ _ rfl; refine ⟨by repeat constructor, ?_⟩
      refine Aq (i := 24) rfl (Wn.plain rfl) rfl (fun _ => Yl.assign rfl) ?_
      refine AW.done (by kernel_rfl) ?_
      refine ⟨_, _, ?_, (Le.cons rfl (Le.cons rfl (Le.cons rfl (Le.cons rfl (Le.cons rfl (Le.cons rfl (Le.cons rfl (Le.cons rfl (Le.cons rfl (Le.nil _)))))))))), rfl, by repeat constructor, by repeat constructor⟩
      trivial
     ·refine AWi.step (i := 22) rfl (Wn.plain rfl) rfl (Ex.alloc Tryz.zeroValue85 (by constructor)) (.keep (by kernel_rfl) (.keep (by kernel_rfl) (.keep (by kernel_rfl) .nil))) ?_
      rintro _ _ ⟨b6, rfl, rfl⟩; refine ⟨by repeat constructor, ?_⟩
      refine AW.step (i := 18) rfl (by kernel_rfl) (Wn.plain rfl) rfl (Ex.call rfl rfl rfl (FnC.tri0 Tryz.call247 (c_Sub _ _ w1 w2 w3)) (by repeat constructor)) (.keep (by kernel_rfl) (.keep (by kernel_rfl) (.keep (by kernel_rfl) .nil))) ?_
      rintro _ _ ⟨_, ⟨rfl, rfl⟩, rfl⟩; refine ⟨by repeat constructor, ?_⟩
      refine Aq (i := 19) rfl (Wn.plain rfl) rfl (fun _ => Yl.move rfl) ?_
      refine Aq (i := 20) rfl (Wn.plain rfl) rfl (fun _ => Yl.extract rfl (by repeat constructor)) ?_
      refine Aq (i := 21) rfl (Wn.plain rfl) rfl (fun _ => Yl.extract rfl (by repeat constructor)) ?_
      refine AW.step (i := 23) rfl (by kernel_rfl) (Wn.plain rfl) rfl (Ex.store Tryz.sizeOf85 rfl rfl (by constructor) (by repeat constructor) rfl (by repeat constructor) (by repeat constructor)) (.drop (by kernel_rfl) (.drop (by kernel_rfl) (.drop (by kernel_rfl) .nil))) ?_
      rintro _ _ rfl; refine ⟨by repeat constructor, ?_⟩
      refine Aq (i := 24) rfl (Wn.plain rfl) rfl (fun _ => Yl.assign rfl) ?_
      refine AW.done (by kernel_rfl) ?_
      refine ⟨_, _, ?_, (Le.cons rfl (Le.cons rfl (Le.cons rfl (Le.cons rfl (Le.cons rfl (Le.cons rfl (Le.cons rfl (Le.cons rfl (Le.cons rfl (Le.nil _)))))))))), rfl, by repeat constructor, by repeat constructor⟩
      trivial
    ·refine AWi.step (i := 22) rfl (Wn.plain rfl) rfl (Ex.alloc Tryz.zeroValue85 (by constructor)) (.keep (by kernel_rfl) (.keep (by kernel_rfl) (.keep (by kernel_rfl) (.keep (by kernel_rfl) .nil)))) ?_
     rintro _ _ ⟨b7, rfl, rfl⟩; refine ⟨by repeat constructor, ?_⟩
     refine AW.step (i := 17) rfl (by kernel_rfl) (Wn.plain rfl) rfl (Ex.call rfl rfl rfl (FnC.tri0 Tryz.call95 (c_Mul _ _ (by omega) (by omega) (by omega) (by omega))) (by repeat constructor)) (.keep (by kernel_rfl) (.keep (by kernel_rfl) (.keep (by kernel_rfl) (.drop (by kernel_rfl) .nil)))) ?_
     rintro _ _ ⟨_, ⟨rfl, rfl⟩, rfl⟩; refine ⟨by repeat constructor, ?_⟩
     refine AW.step (i := 18) rfl (by kernel_rfl) (Wn.plain rfl) rfl (Ex.call rfl rfl rfl (FnC.tri0 Tryz.call247 (c_Sub _ _ w1 w2 w3)) (by repeat constructor)) (.keep (by kernel_rfl) (.keep (by kernel_rfl) (.keep (by kernel_rfl) .nil))) ?_
     rintro _ _ ⟨_, ⟨rfl, rfl⟩, rfl⟩; refine ⟨by repeat constructor, ?_⟩
     refine Aq (i := 19) rfl (Wn.plain rfl) rfl (fun _ => Yl.move rfl) ?_
     refine Aq (i := 20) rfl (Wn.plain rfl) rfl (fun _ => Yl.extract rfl (by repeat constructor)) ?_
     refine Aq (i := 21) rfl (Wn.plain rfl) rfl (fun _ => Yl.extract rfl (by repeat constructor)) ?_
     refine AW.step (i := 23) rfl (by kernel_rfl) (Wn.plain rfl) rfl (Ex.store Tryz.sizeOf85 rfl rfl (by constructor) (by repeat constructor) rfl (by repeat constructor) (by repeat constructor)) (.drop (by kernel_rfl) (.drop (by kernel_rfl) (.drop (by kernel_rfl) .nil))) ?_
     rintro _ _ rfl; refine ⟨by repeat constructor, ?_⟩
     refine Aq (i := 24) rfl (Wn.plain rfl) rfl (fun _ => Yl.assign rfl) ?_
     refine AW.done (by kernel_rfl) ?_
     refine ⟨_, _, ?_, (Le.cons rfl (Le.cons rfl (Le.cons rfl (Le.cons rfl (Le.cons rfl (Le.cons rfl (Le.cons rfl (Le.cons rfl (Le.cons rfl (Le.nil _)))))))))), rfl, by repeat constructor, by repeat constructor⟩
     trivial
   ·refine AWi.step (i := 22) rfl (Wn.plain rfl) rfl (Ex.alloc Tryz.zeroValue85 (by constructor)) (.keep (by kernel_rfl) (.keep (by kernel_rfl) (.keep (by kernel_rfl) (.keep (by kernel_rfl) (.keep (by kernel_rfl) (.keep (by kernel_rfl) .nil)))))) ?_
    rintro _ _ ⟨b8, rfl, rfl⟩; refine ⟨by repeat constructor, ?_⟩
    refine AW.step (i := 4) rfl (by kernel_rfl) (Wn.plain rfl) rfl (Ex.call rfl rfl rfl (FnC.tri0 Tryz.call95 (c_Mul _ _ (by omega) (by omega) (by omega) (by omega))) (by repeat constructor)) (.keep (by kernel_rfl) (.keep (by kernel_rfl) (.keep (by kernel_rfl) (.keep (by kernel_rfl) (.drop (by kernel_rfl) (.drop (by kernel_rfl) .nil)))))) ?_
    rintro _ _ ⟨_, ⟨rfl, rfl⟩, rfl⟩; refine ⟨by repeat constructor, ?_⟩
    refine AW.step (i := 17) rfl (by kernel_rfl) (Wn.plain rfl) rfl (Ex.call rfl rfl rfl (FnC.tri0 Tryz.call95 (c_Mul _ _ (by omega) (by omega) (by omega) (by omega))) (by repeat constructor)) (.keep (by kernel_rfl) (.keep (by kernel_rfl) (.keep (by kernel_rfl) (.drop (by kernel_rfl) .nil)))) ?_
    rintro _ _ ⟨_, ⟨rfl, rfl⟩, rfl⟩; refine ⟨by repeat constructor, ?_⟩
    refine AW.step (i := 18) rfl (by kernel_rfl) (Wn.plain rfl) rfl (Ex.call rfl rfl rfl (FnC.tri0 Tryz.call247 (c_Sub _ _ w1 w2 w3)) (by repeat constructor)) (.keep (by kernel_rfl) (.keep (by kernel_rfl) (.keep (by kernel_rfl) .nil))) ?_
    rintro _ _ ⟨_, ⟨rfl, rfl⟩, rfl⟩; refine ⟨by repeat constructor, ?_⟩
    refine Aq (i := 19) rfl (Wn.plain rfl) rfl (fun _ => Yl.move rfl) ?_
    refine Aq (i := 20) rfl (Wn.plain rfl) rfl (fun _ => Yl.extract rfl (by repeat constructor)) ?_
    refine Aq (i := 21) rfl (Wn.plain rfl) rfl (fun _ => Yl.extract rfl (by repeat constructor)) ?_
    refine AW.step (i := 23) rfl (by kernel_rfl) (Wn.plain rfl) rfl (Ex.store Tryz.sizeOf85 rfl rfl (by constructor) (by repeat constructor) rfl (by repeat constructor) (by repeat constructor)) (.drop (by kernel_rfl) (.drop (by kernel_rfl) (.drop (by kernel_rfl) .nil))) ?_
    rintro _ _ rfl; refine ⟨by repeat constructor, ?_⟩
    refine Aq (i := 24) rfl (Wn.plain rfl) rfl (fun _ => Yl.assign rfl) ?_
    refine AW.done (by kernel_rfl) ?_
    refine ⟨_, _, ?_, (Le.cons rfl (Le.cons rfl (Le.cons rfl (Le.cons rfl (Le.cons rfl (Le.cons rfl (Le.cons rfl (Le.cons rfl (Le.cons rfl (Le.nil _)))))))))), rfl, by repeat constructor, by repeat constructor⟩
    trivial
  ·rintro b8 hcut
   show W _ _ _ _ _ _ ([(8, .pointer (some ⟨b8, 0, none⟩))] ++ _) _ ([.cell b8 (encW (nOf s z.T y)) 85] ++ _)
   refine Wr ?_
   refine Oy rfl (Yl.move rfl) ?_
   refine Oy rfl (Yl.eql rfl rfl) ?_
   refine Oy rfl (Yl.move rfl) ?_
   refine OW.split (t := 44) rfl (fun hq2 => ?_) (fun hq2 => ?_)
   ·have hq2d := of_decide_eq_true hq2
    refine OW.not (Wn.not rfl rfl rfl hq2) rfl ?_
    refine OW.not (Wn.not rfl rfl rfl hq2) rfl ?_
    refine OW.not (Wn.not rfl rfl rfl hq2) rfl ?_
    refine OW.not (Wn.not rfl rfl rfl hq2) rfl ?_
    refine Oy rfl (Yl.pick_true rfl hq2 rfl) ?_
    refine OW.nil ?_
    refine W.cond_true rfl ?_
    refine W.region ?_
    refine Oy rfl (Yl.load ⟨Tryz.isAgg85, Tryz.sizeOf85⟩ rfl (by repeat constructor) (by repeat constructor)) ?_
    refine OW.store (Wn.plain rfl) Tryz.sizeOf85 rfl rfl (by constructor) (by repeat constructor) rfl (by repeat constructor) (by repeat constructor) ?_
    refine OW.nil ?_
    refine W.region ?_
    refine Oy rfl (Yl.add rfl rfl (by omega)) ?_
    refine Oy rfl (Yl.move rfl) ?_
    refine OW.nil ?_
    refine ⟨(i + 1, nOf s z.T y), _, ⟨by omega, ?_⟩, (Le.cons rfl (Le.cons rfl (Le.cons rfl (Le.cons rfl (Le.cons rfl (Le.cons rfl (Le.cons rfl (Le.nil _)))))))), rfl, by repeat constructor, by repeat constructor, by first | omega | (dsimp only; omega)⟩
    rw [lowA_step hy, ← hinv, t0M_at hz]
    have hcc := cmpI_cases (nOf s z.T y) o
    first | exact (if_pos (by omega)).symm | (rw [if_neg (by omega)]; first | exact (if_pos (by omega)).symm | exact (if_neg (by omega)).symm)
   ·have hq2d := of_decide_eq_false hq2
    refine OW.yl (Wn.run rfl rfl rfl hq2) rfl (Yl.load ⟨Tryz.isAgg85, Tryz.sizeOf85⟩ rfl (by repeat constructor) (by repeat constructor)) ?_
    refine OW.yl (Wn.run rfl rfl rfl hq2) rfl (Yl.load ⟨Tryz.isAgg85, Tryz.sizeOf85⟩ rfl (by repeat constructor) (by repeat constructor)) ?_
    refine OW.callv (Wn.run rfl rfl rfl hq2) rfl Tryz.call49 rfl (c_Compare _ _) (by repeat constructor) ?_
    refine OW.yl (Wn.run rfl rfl rfl hq2) rfl (Yl.gtr rfl rfl) ?_
    refine Oy rfl (Yl.pick_false rfl hq2 rfl) ?_
    refine OW.nil ?_
    refine W.cond rfl (fun hq3 => ?_) (fun hq3 => ?_)
    ·have hq3d := of_decide_eq_true hq3
     refine W.region ?_
     refine Oy rfl (Yl.load ⟨Tryz.isAgg85, Tryz.sizeOf85⟩ rfl (by repeat constructor) (by repeat constructor)) ?_
     refine OW.store (Wn.plain rfl) Tryz.sizeOf85 rfl rfl (by constructor) (by repeat constructor) rfl (by repeat constructor) (by repeat constructor) ?_
     refine OW.nil ?_
     refine W.region ?_
     refine Oy rfl (Yl.add rfl rfl (by omega)) ?_
     refine Oy rfl (Yl.move rfl) ?_
     refine OW.nil ?_
     refine ⟨(i + 1, nOf s z.T y), _, ⟨by omega, ?_⟩, (Le.cons rfl (Le.cons rfl (Le.cons rfl (Le.cons rfl (Le.cons rfl (Le.cons rfl (Le.cons rfl (Le.nil _)))))))), rfl, by repeat constructor, by repeat constructor, by first | omega | (dsimp only; omega)⟩
     rw [lowA_step hy, ← hinv, t0M_at hz]
     have hcc := cmpI_cases (nOf s z.T y) o
     first | exact (if_pos (by omega)).symm | (rw [if_neg (by omega)]; first | exact (if_pos (by omega)).symm | exact (if_neg (by omega)).symm)
    ·have hq3d := of_decide_eq_false hq3
     refine W.skip ?_
     refine W.region ?_
     refine Oy rfl (Yl.add rfl rfl (by omega)) ?_
     refine Oy rfl (Yl.move rfl) ?_
     refine OW.nil ?_
     refine ⟨(i + 1, o), _, ⟨by omega, ?_⟩, (Le.cons rfl (Le.cons rfl (Le.cons rfl (Le.cons rfl (Le.cons rfl (Le.cons rfl (Le.cons rfl (Le.nil _)))))))), rfl, by repeat constructor, by repeat constructor, by first | omega | (dsimp only; omega)⟩
     rw [lowA_step hy, ← hinv, t0M_at hz]
     have hcc := cmpI_cases (nOf s z.T y) o
     first | exact (if_pos (by omega)).symm | (rw [if_neg (by omega)]; first | exact (if_pos (by omega)).symm | exact (if_neg (by omega)).symm)
 ·have hq1d := of_decide_eq_false hq1
  rw [take_end (by omega)] at hinv
  refine W.exit ?_
  refine Wr ?_
  refine Oy rfl (Yl.load ⟨Tryz.isAgg85, Tryz.sizeOf85⟩ rfl (by repeat constructor) (by repeat constructor)) ?_
  refine OW.store (Wn.plain rfl) Tryz.sizeOf85 rfl rfl (by constructor) (by repeat constructor) rfl (by repeat constructor) (by repeat constructor) ?_
  refine OW.nil ?_
  refine W.ret ?_
  refine Fin.mk (Rsl.of1 rfl (.cell ⟨Tryz.isAgg85, Tryz.sizeOf85⟩ rfl (by repeat constructor) (by repeat constructor))) ⟨?_, rfl⟩ (by repeat constructor) (by repeat constructor)
  rw [hinv]; rfl

def SInv (u : SS) : Prop := slopeM u.1 = true ∧ slopeM u.2 = true ∧ cmpS u.1 u.2 ≤ 0
theorem cmpS_anti {a b : Slo} (h : ¬ cmpS b a < 0) : cmpS a b ≤ 0 := by
 have h1 := cmpI_cases (a.N * b.D) (b.N * a.D)
 have h2 := cmpI_cases (b.N * a.D) (a.N * b.D)
 unfold cmpS at *; omega
theorem letM_ok {a b : Bnd} (ha : BndOk a) (hb : BndOk b) (ht : a.T < b.T) : slopeM (letM b a).1 = true ∧ slopeM (letM b a).2 = true := by
 unfold BndOk at ha hb
 exact ⟨slopeM_i ⟨by simp only [letM]; omega, by simp only [letM]; omega, by simp only [letM]; omega⟩, slopeM_i ⟨by simp only [letM]; omega, by simp only [letM]; omega, by simp only [letM]; omega⟩⟩
theorem next_ok : ∀ (l : List SS) (u : SS), slopeM u.1 = true → slopeM u.2 = true → (∀ s ∈ l, slopeM s.1 = true ∧ slopeM s.2 = true) → slopeM (l.foldl nextStep u).1 = true ∧ slopeM (l.foldl nextStep u).2 = true
  | [], u, h1, h2, _ => ⟨h1, h2⟩
  | s :: l, u, h1, h2, h => by
    have hs := h s List.mem_cons_self
    refine next_ok l (nextStep u s) ?_ ?_ fun x hx => h x (List.mem_cons_of_mem _ hx)
    · simp only [nextStep]; split
      · exact hs.1
      · exact h1
    · simp only [nextStep]; split
      · exact hs.2
      · exact h2
theorem ftake_inv {u v : SS} {tk : List Bnd} {b : Bnd} (hu : SInv u) (ht : BndsOk tk) (hb : BndOk b) (hl : ∀ a ∈ tk, a.T < b.T) (h : ftakeM u tk b = some v) : SInv v := by
 have hn := next_ok (letsM tk b) u hu.1 hu.2.1 (fun s hs => by
  obtain ⟨a, ha, rfl⟩ := List.mem_map.1 hs
  exact letM_ok (ht a ha) hb (hl a ha))
 unfold ftakeM at h
 split at h
 ·cases h
 ·rename_i hc
  simp only [Option.some.injEq] at h
  subst h
  refine ⟨hn.1, hn.2, cmpS_anti ?_⟩
  unfold cmpL at hc
  have e1 : slopeM (nextM u tk b).1 = true := hn.1
  have e2 : slopeM (nextM u tk b).2 = true := hn.2
  rw [e1, e2] at hc
  simpa using hc
theorem slong_inv : ∀ (l : List Bnd) (u : SS) (tk : List Bnd) (last : Int), SInv u → BndsOk tk → (∀ a ∈ tk, a.T ≤ last) → chkB last l = true → BndsOk l → SInv (slongM u tk l).1 ∧ BndsOk (slongM u tk l).2
  | [], u, tk, last, hu, ht, _, _, _ => ⟨hu, ht⟩
  | b :: bs, u, tk, last, hu, ht, hl, hc, hb => by
    have hbb := hb b List.mem_cons_self
    simp only [chkB, Bool.and_eq_true] at hc
    have hlt := (okB_t hc.1).1
    cases h : ftakeM u tk b with
    | none => rw [slong_n (by rw [h]; rfl)]; exact ⟨hu, ht⟩
    | some v =>
      have hs : (ftakeM u tk b).isSome = true := by rw [h]; rfl
      rw [slong_y hs, ftakeT_y hs]
      have hv := ftake_inv hu ht hbb (fun a ha => by have := hl a ha; omega) h
      have hU : ftakeU u tk b = v := by simp [ftakeU, h]
      rw [hU]
      refine slong_inv bs v (tk ++ [b]) b.T hv (bnds_push ht hbb) (fun a ha => ?_) hc.2 (fun x hx => hb x (List.mem_cons_of_mem _ hx))
      rcases List.mem_append.1 ha with ha | ha
      · have := hl a ha; omega
      · rw [List.mem_singleton.1 ha]; exact Int.le_refl _
theorem sinv0 : SInv all0 := ⟨by decide, by decide, by decide⟩
theorem sfit_inv {l : List Bnd} (hl : bandsM l = true) : SInv (sfitM l).1 ∧ BndsOk (sfitM l).2 := by
 have hc : chkB (-1) l = true := by simp only [bandsM, Bool.and_eq_true] at hl; exact hl.2
 exact slong_inv l all0 [] (-1) sinv0 (fun b hb => by cases hb) (fun b hb => by cases hb) hc (bnds_ok hl)
theorem lowM_low {s : Slo} (h : 0 < s.D) : lowM (lowM s) = lowM s := by
 have hp := gcd_pos (a := s.N) h
 have e : Int.gcd (s.N / (Int.gcd s.N s.D : Int)) (s.D / (Int.gcd s.N s.D : Int)) = 1 := Int.gcd_ediv_gcd_ediv_gcd (by omega)
 have e2 : Int.gcd (lowM s).N (lowM s).D = 1 := e
 have e3 : lowM (lowM s) = ⟨(lowM s).N / (1 : Int), (lowM s).D / (1 : Int)⟩ := by
  have key : ∀ t : Slo, Int.gcd t.N t.D = 1 → lowM t = ⟨t.N / (1 : Int), t.D / (1 : Int)⟩ := fun t ht => by unfold lowM; rw [ht]; rfl
  exact key _ e2
 rw [e3, Int.ediv_one, Int.ediv_one]
theorem lowM_near {a b : Slo} (ha : slopeM a = true) (hb : slopeM b = true) : lowM (nearM a b) = nearM a b := by
 have h1 := slopeM_t ha
 have h2 := slopeM_t hb
 unfold nearM
 split
 ·exact lowM_low (by omega)
 ·split
  ·exact lowM_low (by omega)
  ·decide


def slopeOfL (l : List Bnd) : Slo := nearM (sfitM l).1.1 (sfitM l).1.2
def lowOf (l : List Bnd) : Int := lowW (slopeOfL l) (sfitM l).2
def lfitE (l : List Bnd) : Int := if backM (lowOf l / (slopeOfL l).D) then 0 else 5
def lfitL (l : List Bnd) : Lin := raisedM (lowOf l) (slopeOfL l)
theorem lowA_in {s : Slo} {t0 : Int} (P : Int → Prop) (h0 : P 0) : ∀ (tk : List Bnd), (∀ a ∈ tk, P (nOf s t0 a)) → P (lowA s t0 tk)
 | [], _ => h0
 | x :: xs, h => by
  have key : ∀ (ys : List Bnd) (c : Int), P c → (∀ a ∈ ys, P (nOf s t0 a)) → P (ys.foldl (fun c a => if c < nOf s t0 a then nOf s t0 a else c) c) := by
   intro ys
   induction ys with
   | nil => intro c hc _; exact hc
   | cons y ys ih =>
    intro c hc hy
    refine ih _ ?_ fun a ha => hy a (List.mem_cons_of_mem _ ha)
    dsimp only; split
    ·exact hy y List.mem_cons_self
    ·exact hc
  exact key xs _ (h x List.mem_cons_self) fun a ha => h a (List.mem_cons_of_mem _ ha)
theorem lowW_in {s : Slo} {tk : List Bnd} (hs : slopeM s = true) (hok : BndsOk tk) : InW (lowW s tk) := by
 refine lowA_in InW (by decide) tk fun a ha => ?_
 cases tk with
 | nil => cases ha
 | cons z tk => exact (low_in hs (hok a ha) (hok z List.mem_cons_self)).2.2

theorem c_lFit1 (l : List Bnd) (ta : Option Addr) (tc p : Nat) (hl : bandsM l = true) : FnC Tryz.prog 190 #[.pointer (some ⟨p, 0, none⟩)] [.cell p (encFt (sfitM l).1 ta (sfitM l).2.length tc) 270, rowR 42 3 encB (sfitM l).2 ta tc] (fun v L' => v = .tuple #[.agg (encL (lfitL l)).toArray, .int .i64 (lfitE l)] ∧ L' = []) := by
 refine FnC.go (m := 31) Tryz.func190 Tryz.ntmps190 rfl (Nat.le_of_ble_eq_true rfl) (fun Lf => ?_)
 have hlen := bandsM_len hl
 have hsi := sfit_inv hl
 obtain ⟨⟨s1, s2, s3⟩, hok⟩ := hsi
 have hns : slopeM (slopeOfL l) = true := slopeM_near s1 s2
 have hnl : lowM (slopeOfL l) = slopeOfL l := lowM_near s1 s2
 have hle := sfit_le l
 have hwi : InW (lowOf l) := lowW_in hns hok
 refine Wr ?_
 refine OW.alloc (Wn.plain rfl) rfl Tryz.zeroValue37 (by constructor) (fun b1 => ?_)
 refine Oy rfl (Yl.assign rfl) ?_
 refine OW.nil ?_
 refine W.seqS (X := (Nat)) (R0 := []) (fun (b4 : (Nat)) => (True : Prop)) (fun (b4 : (Nat)) => ([(4, .pointer (some ⟨b4, 0, none⟩)), (5, .int .i64 0)] : Env)) (fun (b4 : (Nat)) => ([.cell b4 (encS (slopeOfL l)) 146] : List Res)) [(0, _), (2, _), (3, _)] (Le.cons rfl (Le.cons rfl (Le.cons rfl (Le.nil _)))) (by repeat constructor) ?_ ?_
 ·refine W.draw mixed ?_
  refine Aq (i := 0) rfl (Wn.plain rfl) rfl (fun _ => Yl.move rfl) ?_
  refine Aq (i := 1) rfl (Wn.plain rfl) rfl (fun _ => Yl.nilCheck rfl) ?_
  refine Aq (i := 2) rfl (Wn.plain rfl) rfl (fun _ => Yl.fieldL 0 (fa_270_0) rfl rfl) ?_
  refine Aq (i := 3) rfl (Wn.plain rfl) rfl (fun _ => Yl.indexA (o' := 0) 0 ⟨Tryz.underlying268, Tryz.sizeOf146⟩ rfl rfl rfl (by decide) rfl) ?_
  refine Al (i := 4) rfl (Wn.plain rfl) rfl (by repeat constructor) (Yl.load ⟨Tryz.isAgg146, Tryz.sizeOf146⟩ rfl .head (by repeat constructor)) ?_
  refine Aq (i := 5) rfl (Wn.plain rfl) rfl (fun _ => Yl.move rfl) ?_
  refine Aq (i := 6) rfl (Wn.plain rfl) rfl (fun _ => Yl.nilCheck rfl) ?_
  refine Aq (i := 7) rfl (Wn.plain rfl) rfl (fun _ => Yl.fieldL 0 (fa_270_0) rfl rfl) ?_
  refine Aq (i := 8) rfl (Wn.plain rfl) rfl (fun _ => Yl.indexA (o' := 2) 1 ⟨Tryz.underlying268, Tryz.sizeOf146⟩ rfl rfl rfl (by decide) rfl) ?_
  refine Al (i := 9) rfl (Wn.plain rfl) rfl (by repeat constructor) (Yl.load ⟨Tryz.isAgg146, Tryz.sizeOf146⟩ rfl .head (by repeat constructor)) ?_
  refine AW.two 10 14 (by kernel_rfl) ?_ ?_
  ·refine AWi.step (i := 10) rfl (Wn.plain rfl) rfl (Ex.call rfl rfl rfl (FnC.tri0 Tryz.call191 (c_Nearest (sfitM l).1.1 (sfitM l).1.2 s1 s2 s3)) (by repeat constructor)) (.drop (by kernel_rfl) (.drop (by kernel_rfl) .nil)) ?_
   rintro _ _ ⟨_, ⟨rfl, rfl⟩, rfl⟩; refine ⟨by repeat constructor, ?_⟩
   refine Aq (i := 11) rfl (Wn.plain rfl) rfl (fun _ => Yl.move rfl) ?_
   refine Aq (i := 12) rfl (Wn.plain rfl) rfl (fun _ => Yl.extract rfl (by repeat constructor)) ?_
   refine Aq (i := 13) rfl (Wn.plain rfl) rfl (fun _ => Yl.extract rfl (by repeat constructor)) ?_
   refine AW.step (i := 14) rfl (by kernel_rfl) (Wn.plain rfl) rfl (Ex.alloc Tryz.zeroValue146 (by constructor)) .nil ?_
   rintro _ _ ⟨b2, rfl, rfl⟩; refine ⟨by repeat constructor, ?_⟩
   refine AW.step (i := 15) rfl (by kernel_rfl) (Wn.plain rfl) rfl (Ex.store Tryz.sizeOf146 rfl rfl (by constructor) (by repeat constructor) rfl (by repeat constructor) (by repeat constructor)) .nil ?_
   rintro _ _ rfl; refine ⟨by repeat constructor, ?_⟩
   refine Aq (i := 16) rfl (Wn.plain rfl) rfl (fun _ => Yl.assign rfl) ?_
   refine AW.done (by kernel_rfl) ?_
   refine ⟨_, _, ?_, (Le.cons rfl (Le.cons rfl (Le.cons rfl (Le.cons rfl (Le.cons rfl (Le.nil _)))))), rfl, by repeat constructor, by repeat constructor⟩
   trivial
  ·refine AWi.step (i := 14) rfl (Wn.plain rfl) rfl (Ex.alloc Tryz.zeroValue146 (by constructor)) (.keep (by kernel_rfl) (.keep (by kernel_rfl) .nil)) ?_
   rintro _ _ ⟨b3, rfl, rfl⟩; refine ⟨by repeat constructor, ?_⟩
   refine AW.step (i := 10) rfl (by kernel_rfl) (Wn.plain rfl) rfl (Ex.call rfl rfl rfl (FnC.tri0 Tryz.call191 (c_Nearest (sfitM l).1.1 (sfitM l).1.2 s1 s2 s3)) (by repeat constructor)) (.drop (by kernel_rfl) (.drop (by kernel_rfl) .nil)) ?_
   rintro _ _ ⟨_, ⟨rfl, rfl⟩, rfl⟩; refine ⟨by repeat constructor, ?_⟩
   refine Aq (i := 11) rfl (Wn.plain rfl) rfl (fun _ => Yl.move rfl) ?_
   refine Aq (i := 12) rfl (Wn.plain rfl) rfl (fun _ => Yl.extract rfl (by repeat constructor)) ?_
   refine Aq (i := 13) rfl (Wn.plain rfl) rfl (fun _ => Yl.extract rfl (by repeat constructor)) ?_
   refine AW.step (i := 15) rfl (by kernel_rfl) (Wn.plain rfl) rfl (Ex.store Tryz.sizeOf146 rfl rfl (by constructor) (by repeat constructor) rfl (by repeat constructor) (by repeat constructor)) .nil ?_
   rintro _ _ rfl; refine ⟨by repeat constructor, ?_⟩
   refine Aq (i := 16) rfl (Wn.plain rfl) rfl (fun _ => Yl.assign rfl) ?_
   refine AW.done (by kernel_rfl) ?_
   refine ⟨_, _, ?_, (Le.cons rfl (Le.cons rfl (Le.cons rfl (Le.cons rfl (Le.cons rfl (Le.nil _)))))), rfl, by repeat constructor, by repeat constructor⟩
   trivial
 ·rintro b4 hcut
  show W _ _ _ _ _ _ ([(4, .pointer (some ⟨b4, 0, none⟩)), (5, .int .i64 0)] ++ _) _ ([.cell b4 (encS (slopeOfL l)) 146] ++ _)
  refine W.seq ?_
  refine Wr ?_
  refine Oy rfl (Yl.move rfl) ?_
  refine Oy rfl (Yl.neq rfl rfl) ?_
  refine OW.nil ?_
  refine W.cond_f1 rfl (by decide) ?_
  refine W.skip ?_
  refine W.seq ?_
  refine W.draw mixed ?_
  refine Aq (i := 0) rfl (Wn.plain rfl) rfl (fun _ => Yl.move rfl) ?_
  refine Al (i := 1) rfl (Wn.plain rfl) rfl (by repeat constructor) (Yl.load ⟨Tryz.isAgg146, Tryz.sizeOf146⟩ rfl .head (by repeat constructor)) ?_
  refine Al (i := 3) rfl (Wn.plain rfl) rfl (by repeat constructor) (Yl.load ⟨Tryz.isAgg146, Tryz.sizeOf146⟩ rfl .head (by repeat constructor)) ?_
  refine AW.step (i := 2) rfl (by kernel_rfl) (Wn.plain rfl) rfl (Ex.call rfl rfl rfl (FnC.tri0 Tryz.call193 (c_low (sfitM l).2 (sfitM l).1 ta tc p (slopeOfL l) (by omega) hok hns)) (by repeat constructor)) (.keep (by kernel_rfl) (.drop (by kernel_rfl) .nil)) ?_
  rintro _ _ ⟨_, ⟨rfl, rfl⟩, rfl⟩; refine ⟨by repeat constructor, ?_⟩
  refine AW.step (i := 4) rfl (by kernel_rfl) (Wn.plain rfl) rfl (Ex.call rfl rfl rfl (FnC.tri0 Tryz.call192 (c_RaisedT (lowOf l) (slopeOfL l) hwi hns hnl)) (by repeat constructor)) (.drop (by kernel_rfl) .nil) ?_
  rintro _ _ ⟨_, ⟨rfl, rfl⟩, rfl⟩; refine ⟨by repeat constructor, ?_⟩
  refine Aq (i := 5) rfl (Wn.plain rfl) rfl (fun _ => Yl.extract rfl (by repeat constructor)) ?_
  refine Aq (i := 6) rfl (Wn.plain rfl) rfl (fun _ => Yl.extract rfl (by repeat constructor)) ?_
  refine AW.step (i := 7) rfl (by kernel_rfl) (Wn.plain rfl) rfl (Ex.store Tryz.sizeOf37 rfl rfl (by constructor) (by repeat constructor) rfl (by repeat constructor) (by repeat constructor)) .nil ?_
  rintro _ _ rfl; refine ⟨by repeat constructor, ?_⟩
  refine Aq (i := 8) rfl (Wn.plain rfl) rfl (fun _ => Yl.assign rfl) ?_
  refine AW.done (by kernel_rfl) ?_
  refine W.ret ?_
  refine Fin.mk (Rsl.of2 rfl (.cell ⟨Tryz.isAgg37, Tryz.sizeOf37⟩ rfl (by repeat constructor) (by repeat constructor)) (.tmp rfl)) ⟨?_, rfl⟩ (by repeat constructor) (by repeat constructor)
  rfl

def lfitOk (l : List Bnd) : Bool := decide ((sfitM l).2.length = l.length)
def lFitL (l : List Bnd) : Lin := if lfitOk l then lfitL l else ⟨0, 0, 0, 0⟩
def lFitE (l : List Bnd) : Int := if lfitOk l then lfitE l else 181
def lFitV (l : List Bnd) : Value := .tuple #[.agg (encL (lFitL l)).toArray, .int .i64 (lFitE l)]
theorem lFitV_y {l : List Bnd} (h : ¬ ((sfitM l).2.length : Int) < (l.length : Int)) : lFitV l = .tuple #[.agg (encL (lfitL l)).toArray, .int .i64 (lfitE l)] := by
 have h1 : lfitOk l = true := decide_eq_true (by have := sfit_le l; omega)
 simp [lFitV, lFitL, lFitE, h1]
theorem lFitV_n {l : List Bnd} (h : ((sfitM l).2.length : Int) < (l.length : Int)) : lFitV l = .tuple #[.agg (encL ⟨0, 0, 0, 0⟩).toArray, .int .i64 181] := by
 have h1 : lfitOk l = false := decide_eq_false (by omega)
 simp [lFitV, lFitL, lFitE, h1]

theorem c_lwhole1 (l : List Bnd) (a : Option Addr) (c b b2 p : Nat) (ta : Option Addr) (tc : Nat) (hl : bandsM l = true) : FnC Tryz.prog 244 #[.pointer (some ⟨p, 0, none⟩), .pointer (some ⟨b, 0, none⟩), .pointer (some ⟨b2, 0, none⟩)] [.cell b [.slice a l.length c] 38, .cell b2 [.func (.func 190) #[] #[]] 277, .cell p (encFt (sfitM l).1 ta (sfitM l).2.length tc) 270, rowR 42 3 encB (sfitM l).2 ta tc] (fun v L' => v = lFitV l ∧ L' = []) := by
 refine FnC.go (m := 21) Tryz.func244 Tryz.ntmps244 rfl (Nat.le_of_ble_eq_true rfl) (fun Lf => ?_)
 refine Wr ?_
 refine OW.alloc (Wn.plain rfl) rfl Tryz.zeroValue37 (by constructor) (fun b1 => ?_)
 refine Oy rfl (Yl.assign rfl) ?_
 refine OW.nil ?_
 refine W.seq ?_
 refine W.seq ?_
 refine W.draw mixed ?_
 refine Aq (i := 0) rfl (Wn.plain rfl) rfl (fun _ => Yl.move rfl) ?_
 refine Aq (i := 1) rfl (Wn.plain rfl) rfl (fun _ => Yl.nilCheck rfl) ?_
 refine Aq (i := 2) rfl (Wn.plain rfl) rfl (fun _ => Yl.fieldL 4 (fa_270_1) rfl rfl) ?_
 refine Al (i := 3) rfl (Wn.plain rfl) rfl (by repeat constructor) (Yl.load1 Tryz.isAgg38 rfl .head (by repeat constructor)) ?_
 refine Aq (i := 4) rfl (Wn.plain rfl) rfl (fun _ => Yl.len ⟨Tryz.underlying38, Tryz.sizeOf42⟩ rfl) ?_
 refine Al (i := 5) rfl (Wn.plain rfl) rfl (by repeat constructor) (Yl.load1 Tryz.isAgg38 rfl .head (by repeat constructor)) ?_
 refine Aq (i := 6) rfl (Wn.plain rfl) rfl (fun _ => Yl.len ⟨Tryz.underlying38, Tryz.sizeOf42⟩ rfl) ?_
 refine Aq (i := 7) rfl (Wn.plain rfl) rfl (fun _ => Yl.lss rfl rfl) ?_
 refine AW.done (by kernel_rfl) ?_
 refine W.cond rfl (fun hq1 => ?_) (fun hq1 => ?_)
 ·have hq1d := of_decide_eq_true hq1
  rw [lFitV_n hq1d]
  refine Wr ?_
  refine OW.alloc (Wn.plain rfl) rfl Tryz.zeroValue37 (by constructor) (fun b2 => ?_)
  refine OW.nil ?_
  refine Wr ?_
  refine Oy rfl (Yl.load ⟨Tryz.isAgg37, Tryz.sizeOf37⟩ rfl (by repeat constructor) (by repeat constructor)) ?_
  refine OW.store (Wn.plain rfl) Tryz.sizeOf37 rfl rfl (by constructor) (by repeat constructor) rfl (by repeat constructor) (by repeat constructor) ?_
  refine Oy rfl (Yl.assign rfl) ?_
  refine OW.nil ?_
  refine W.ret ?_
  refine Fin.mk (Rsl.of2 rfl (.cell ⟨Tryz.isAgg37, Tryz.sizeOf37⟩ rfl (by repeat constructor) (by repeat constructor)) (.tmp rfl)) ⟨?_, rfl⟩ (by repeat constructor) (by repeat constructor)
  rfl
 ·have hq1d := of_decide_eq_false hq1
  rw [lFitV_y hq1d]
  refine W.skip ?_
  refine Wr ?_
  refine Oy rfl (Yl.load1 Tryz.isAgg277 rfl (by repeat constructor) (by repeat constructor)) ?_
  refine Oy rfl (Yl.move rfl) ?_
  refine OW.call (Wn.plain rfl) rfl rfl rfl (FnC.triC Tryz.call190 (c_lFit1 l ta tc p hl)) (by repeat constructor) ?_
  rintro _ _ ⟨rfl, rfl⟩
  refine Oy rfl (Yl.extract rfl (by repeat constructor)) ?_
  refine Oy rfl (Yl.extract rfl (by repeat constructor)) ?_
  refine OW.store (Wn.plain rfl) Tryz.sizeOf37 rfl rfl (by constructor) (by repeat constructor) rfl (by repeat constructor) (by repeat constructor) ?_
  refine Oy rfl (Yl.assign rfl) ?_
  refine OW.nil ?_
  refine W.ret ?_
  refine Fin.mk (Rsl.of2 rfl (.cell ⟨Tryz.isAgg37, Tryz.sizeOf37⟩ rfl (by repeat constructor) (by repeat constructor)) (.tmp rfl)) ⟨?_, rfl⟩ (by repeat constructor) (by repeat constructor)
  rfl
theorem c_ltellsLine (l : List Bnd) (a : Option Addr) (c bs bf : Nat) (hl : bandsM l = true) : FnC Tryz.prog 243 #[.slice a l.length c, .func (.func 244) #[] #[.pointer (some ⟨bs, 0, none⟩), .pointer (some ⟨bf, 0, none⟩)]] [.cell bs [.slice a l.length c] 38, .cell bf [.func (.func 190) #[] #[]] 277, rowI 3 encB l a c, glob0] (fun v L' => v = lFitV l ∧ L' = []) := by
 refine FnC.go (m := 20) Tryz.func243 Tryz.ntmps243 rfl (Nat.le_of_ble_eq_true rfl) (fun Lf => ?_)
 have hlen := bandsM_len hl
 have hok := bnds_ok hl
 refine Wr ?_
 refine OW.alloc (Wn.plain rfl) rfl Tryz.zeroValue37 (by constructor) (fun b1 => ?_)
 refine Oy rfl (Yl.assign rfl) ?_
 refine OW.nil ?_
 refine Wr ?_
 refine OW.alloc (Wn.plain rfl) rfl Tryz.zeroValue37 (by constructor) (fun b2 => ?_)
 refine OW.nil ?_
 refine W.seq ?_
 refine Wr ?_
 refine Oy rfl (Yl.move rfl) ?_
 refine OW.callv (Wn.plain rfl) rfl Tryz.call183 rfl ((c_pCheck l _ _).cast (v' := .int .i64 0) (by simp [hl])) (by repeat constructor) ?_
 refine Oy rfl (Yl.assign rfl) ?_
 refine OW.nil ?_
 refine Wr ?_
 refine Oy rfl (Yl.move rfl) ?_
 refine Oy rfl (Yl.neq rfl rfl) ?_
 refine OW.nil ?_
 refine W.cond_f1 rfl (by decide) ?_
 refine W.skip ?_
 refine Wr ?_
 refine Oy rfl (Yl.move rfl) ?_
 refine Oy rfl (Yl.move rfl) ?_
 refine OW.call (Wn.plain rfl) rfl rfl rfl (FnC.tri0 Tryz.call188 (c_slongest l _ _ (by omega) hok)) (by repeat constructor) ?_
 rintro _ _ ⟨p, ta, tc, rfl, rfl⟩
 refine OW.call (Wn.plain rfl) rfl rfl rfl (FnC.triC (first := []) (args := [.pointer (some ⟨p, 0, none⟩)]) (cap := [.pointer (some ⟨bs, 0, none⟩), .pointer (some ⟨bf, 0, none⟩)]) Tryz.call244 (c_lwhole1 l a c bs bf p ta tc hl)) (by repeat constructor) ?_
 rintro _ _ ⟨rfl, rfl⟩
 refine Oy rfl (Yl.extract rfl (by repeat constructor)) ?_
 refine Oy rfl (Yl.extract rfl (by repeat constructor)) ?_
 refine OW.store (Wn.plain rfl) Tryz.sizeOf37 rfl rfl (by constructor) (by repeat constructor) rfl (by repeat constructor) (by repeat constructor) ?_
 refine Oy rfl (Yl.assign rfl) ?_
 refine OW.nil ?_
 refine W.ret ?_
 exact Fin.mk (Rsl.of2 rfl (.cell ⟨Tryz.isAgg37, Tryz.sizeOf37⟩ rfl (by repeat constructor) (by repeat constructor)) (.tmp rfl)) ⟨rfl, rfl⟩ (by repeat constructor) (by repeat constructor)
theorem c_lwhole (l : List Bnd) (a : Option Addr) (c : Nat) (hl : bandsM l = true) : FnC Tryz.prog 189 #[.slice a l.length c, .func (.func 190) #[] #[]] [rowI 3 encB l a c, glob0] (fun v L' => v = lFitV l ∧ L' = []) := by
 refine FnC.go (m := 11) Tryz.func189 Tryz.ntmps189 rfl (Nat.le_of_ble_eq_true rfl) (fun Lf => ?_)
 refine Wr ?_
 refine OW.box (Wn.plain rfl) rfl rfl (by constructor) (fun b1 => ?_)
 refine OW.box (Wn.plain rfl) rfl rfl (by constructor) (fun b2 => ?_)
 refine OW.alloc (Wn.plain rfl) rfl Tryz.zeroValue37 (by constructor) (fun b3 => ?_)
 refine Oy rfl (Yl.assign rfl) ?_
 refine OW.nil ?_
 refine Wr ?_
 refine Oy rfl (Yl.load1 Tryz.isAgg38 rfl (by repeat constructor) (by repeat constructor)) ?_
 refine Oy rfl (Yl.makeFunc rfl rfl) ?_
 refine OW.call (Wn.plain rfl) rfl rfl rfl (FnC.tri0 Tryz.call243 (c_ltellsLine l a c _ _ hl)) (by repeat constructor) ?_
 rintro _ _ ⟨rfl, rfl⟩
 refine Oy rfl (Yl.extract rfl (by repeat constructor)) ?_
 refine Oy rfl (Yl.extract rfl (by repeat constructor)) ?_
 refine OW.store (Wn.plain rfl) Tryz.sizeOf37 rfl rfl (by constructor) (by repeat constructor) rfl (by repeat constructor) (by repeat constructor) ?_
 refine Oy rfl (Yl.assign rfl) ?_
 refine OW.nil ?_
 refine W.ret ?_
 exact Fin.mk (Rsl.of2 rfl (.cell ⟨Tryz.isAgg37, Tryz.sizeOf37⟩ rfl (by repeat constructor) (by repeat constructor)) (.tmp rfl)) ⟨rfl, rfl⟩ (by repeat constructor) (by repeat constructor)
theorem c_lFit (l : List Bnd) (a : Option Addr) (c : Nat) (hl : bandsM l = true) : FnC Tryz.prog 120 #[.slice a l.length c] [rowI 3 encB l a c, glob0] (fun v L' => v = lFitV l ∧ L' = []) := by
 refine FnC.go (m := 8) Tryz.func120 Tryz.ntmps120 rfl (Nat.le_of_ble_eq_true rfl) (fun Lf => ?_)
 refine Wr ?_
 refine OW.alloc (Wn.plain rfl) rfl Tryz.zeroValue37 (by constructor) (fun b1 => ?_)
 refine Oy rfl (Yl.assign rfl) ?_
 refine OW.nil ?_
 refine Wr ?_
 refine Oy rfl (Yl.move rfl) ?_
 refine OW.call (Wn.plain rfl) rfl rfl rfl (FnC.tri0 Tryz.call189 (c_lwhole l a c hl)) (by repeat constructor) ?_
 rintro _ _ ⟨rfl, rfl⟩
 refine Oy rfl (Yl.extract rfl (by repeat constructor)) ?_
 refine Oy rfl (Yl.extract rfl (by repeat constructor)) ?_
 refine OW.store (Wn.plain rfl) Tryz.sizeOf37 rfl rfl (by constructor) (by repeat constructor) rfl (by repeat constructor) (by repeat constructor) ?_
 refine Oy rfl (Yl.assign rfl) ?_
 refine OW.nil ?_
 refine W.ret ?_
 exact Fin.mk (Rsl.of2 rfl (.cell ⟨Tryz.isAgg37, Tryz.sizeOf37⟩ rfl (by repeat constructor) (by repeat constructor)) (.tmp rfl)) ⟨rfl, rfl⟩ (by repeat constructor) (by repeat constructor)
end Go.Yb
