/-
  A part of the proof of windowLine_holds: see the text that holds it. No conditions of its own.
-/
import Derived.Test.YtbfhhinhjgdgpaaGreatDoorSeg
namespace Go.Yb
open Go Go.Proofs Go.RowKit

theorem c_gCheck (s : Sg) (xa : SgA) : FnV Tryz.prog 27 #[.agg (encG s xa).toArray] [rowI 3 encR s.Runs xa.ra xa.rc, rowI 1 encI s.Raw xa.wa xa.wc] (.int .i64 (if segM s then 0 else 210)) := by
 refine FnC.go (m := 7) Tryz.func27 Tryz.ntmps27 rfl (Nat.le_of_ble_eq_true rfl) (fun Lf => ?_)
 refine Wr ?_
 refine OW.box (Wn.plain rfl) rfl rfl (by constructor) (fun b1 => ?_)
 refine Oy rfl (Yl.assign rfl) ?_
 refine OW.nil ?_
 refine W.seq ?_
 refine Wr ?_
 refine Oy rfl (Yl.load ⟨Tryz.isAgg53, Tryz.sizeOf53⟩ rfl (by repeat constructor) (by repeat constructor)) ?_
 refine Oy rfl (Yl.build (is := [0]) (xs := [.tmp 3]) st_105 rfl rfl (by repeat constructor)) ?_
 refine OW.callv (Wn.plain rfl) rfl Tryz.call61 rfl (c_gis _ _) (by repeat constructor) ?_
 refine Oy rfl (Yl.not rfl) ?_
 refine OW.nil ?_
 refine W.cond rfl (fun hq1 => ?_) (fun hq1 => ?_)
 ·have hq1n := not_t hq1
  refine Wr ?_
  refine Oy rfl (Yl.assign rfl) ?_
  refine OW.nil ?_
  refine W.ret ?_
  refine Fin.mk (Rsl.one rfl rfl) ⟨?_, rfl⟩ (by repeat constructor) (by repeat constructor)
  first | (rw [if_pos (by simpa using hq1)]) | (rw [if_neg (by simpa using hq1)])
 ·have hq1n := not_f hq1
  refine W.skip ?_
  refine Wr ?_
  refine Oy rfl (Yl.assign rfl) ?_
  refine OW.nil ?_
  refine W.ret ?_
  refine Fin.mk (Rsl.one rfl rfl) ⟨?_, rfl⟩ (by repeat constructor) (by repeat constructor)
  first | (rw [if_pos (by simpa using hq1)]) | (rw [if_neg (by simpa using hq1)])
theorem c_gofI (s : Sg) (xa : SgA) (tv : Value) (u e : Int) (Lt : List Res) (ht : segM s = true → Tri Tryz.prog tv #[.agg (encG s xa).toArray] Lt (fun v L' => v = .tuple [.int .i64 u, .int .i64 e].toArray ∧ L' = [])) : FnC Tryz.prog 174 #[.agg (encG s xa).toArray, tv] ([rowI 3 encR s.Runs xa.ra xa.rc, rowI 1 encI s.Raw xa.wa xa.wc] ++ Lt) (fun v L' => v = .tuple [.int .i64 (if segM s then u else 0), .int .i64 (if segM s then e else 210)].toArray ∧ (L' = [] ∨ L' = Lt)) := by
 refine FnC.go (m := 18) Tryz.func174 Tryz.ntmps174 rfl (Nat.le_of_ble_eq_true rfl) (fun Lf => ?_)
 refine Wr ?_
 refine OW.box (Wn.plain rfl) rfl rfl (by constructor) (fun b1 => ?_)
 refine Oy rfl (Yl.assign rfl) ?_
 refine Oy rfl (Yl.assign rfl) ?_
 refine OW.nil ?_
 refine Wr ?_
 refine Oy rfl (Yl.assign rfl) ?_
 refine OW.nil ?_
 refine W.seq ?_
 refine Wr ?_
 refine Oy rfl (Yl.load ⟨Tryz.isAgg53, Tryz.sizeOf53⟩ rfl (by repeat constructor) (by repeat constructor)) ?_
 refine Oy rfl (Yl.build (is := [0]) (xs := [.tmp 7]) st_105 rfl rfl (by repeat constructor)) ?_
 refine OW.callv (Wn.plain rfl) rfl Tryz.call61 rfl (c_gis _ _) (by repeat constructor) ?_
 refine Oy rfl (Yl.not rfl) ?_
 refine OW.nil ?_
 refine W.cond rfl (fun hq1 => ?_) (fun hq1 => ?_)
 ·have hq1n := not_t hq1
  have hr : segM s = false := by simpa using hq1
  rw [hr]
  refine Wr ?_
  refine Oy rfl (Yl.move rfl) ?_
  refine Oy rfl (Yl.assign rfl) ?_
  refine Oy rfl (Yl.assign rfl) ?_
  refine OW.nil ?_
  refine W.ret ?_
  exact Fin.it (Rsl.two rfl rfl rfl) (by repeat constructor) ⟨rfl, .inr rfl⟩ (by repeat constructor)
 ·have hq1n := not_f hq1
  have hr : segM s = true := by simpa using hq1
  rw [hr]
  refine W.skip ?_
  refine Wr ?_
  refine Oy rfl (Yl.move rfl) ?_
  refine Oy rfl (Yl.load ⟨Tryz.isAgg53, Tryz.sizeOf53⟩ rfl (by repeat constructor) (by repeat constructor)) ?_
  refine Oy rfl (Yl.build (is := [0]) (xs := [.tmp 13]) st_105 rfl rfl (by repeat constructor)) ?_
  refine OW.call (Wn.plain rfl) rfl rfl rfl (ht hr) (by repeat constructor) ?_
  rintro _ _ ⟨rfl, rfl⟩
  refine Oy rfl (Yl.extract rfl (by repeat constructor)) ?_
  refine Oy rfl (Yl.extract rfl (by repeat constructor)) ?_
  refine Oy rfl (Yl.assign rfl) ?_
  refine Oy rfl (Yl.assign rfl) ?_
  refine OW.nil ?_
  refine W.ret ?_
  exact Fin.mk (Rsl.two rfl rfl rfl) ⟨rfl, .inl rfl⟩ (by repeat constructor) (by repeat constructor)

theorem rawM_t {s : Sg} (h : rawM s = true) : s.Line = ⟨0, 0, 0, 0⟩ ∧ (s.Raw.length : Int) = manyR s.Runs ∧ ∀ v ∈ s.Raw, backM v = true := by
 simp only [rawM, Bool.and_eq_true, decide_eq_true_eq, Bool.not_eq_true', List.any_eq_false] at h
 exact ⟨h.1, h.2.1, fun v hv => by simpa using h.2.2 v hv⟩
theorem back0 : backM 0 = true := by decide
theorem lAtV_in (l : Lin) (dt : Int) : backM (lAtV l dt) = true := by
 unfold lAtV
 split
 ·split
  ·unfold valV; split
   ·assumption
   ·exact back0
  ·exact back0
 ·exact back0
theorem valS_in {s : Sg} (h : segM s = true) (i : Nat) : backM (valS s i) = true := by
 obtain ⟨_, _, _, hk⟩ := segM_t h
 unfold valS
 split
 ·rename_i h4
  rw [kindM_4 h4] at hk
  cases hg : s.Raw[i]? with
  | none => exact back0
  | some v => exact (rawM_t hk).2.2 v (List.mem_of_getElem? hg)
 ·exact lAtV_in _ _
theorem back_t {n : Int} (h : backM n = true) : -2305844108725321728 ≤ n ∧ n ≤ 2305844108725321728 := of_decide_eq_true h

theorem c_gvalue (s : Sg) (xa : SgA) (i : Nat) (h : segM s = true) (hi : (i : Int) < manyR s.Runs) : FnV Tryz.prog 111 #[.agg (encG s xa).toArray, .int .i64 (i : Int)] [rowI 3 encR s.Runs xa.ra xa.rc, rowI 1 encI s.Raw xa.wa xa.wc] (.int .i64 (valS s i)) := by
 refine FnC.go (m := 45) Tryz.func111 Tryz.ntmps111 rfl (Nat.le_of_ble_eq_true rfl) (fun Lf => ?_)
 obtain ⟨xra, xrc, xwa, xwc⟩ := xa
 obtain ⟨_, _, hr, hkm⟩ := segM_t h
 have hm := manyR_1 hr
 have a0 := atV_in hr (i := 0) (by omega)
 have a1 := atV_in hr (i := (i : Int)) (by omega)
 have e1 := rAtV_y hr (i := (i : Int)) (by omega)
 have ef : firstS s = atV s.Runs 0 := rfl
 refine Wr ?_
 refine OW.box (Wn.plain rfl) rfl rfl (by constructor) (fun b1 => ?_)
 refine Oy rfl (Yl.assign rfl) ?_
 refine OW.nil ?_
 refine W.seq ?_
 refine Wr ?_
 refine Oy rfl (Yl.fieldL 0 (fa_105_0) rfl rfl) ?_
 refine Oy rfl (Yl.fieldL 0 (fa_53_0) rfl rfl) ?_
 refine Oy rfl (Yl.load1 Tryz.isAgg3 rfl (by repeat constructor) (by repeat constructor)) ?_
 refine Oy rfl (Yl.eql rfl rfl) ?_
 refine OW.nil ?_
 refine W.cond rfl (fun hq1 => ?_) (fun hq1 => ?_)
 ·have hq1d := of_decide_eq_true hq1
  rw [kindM_4 hq1d] at hkm
  have hraw := rawM_t hkm
  have hrl := hraw.2.1
  obtain ⟨y, hy⟩ : ∃ y, s.Raw[i]? = some y := ⟨_, List.getElem?_eq_getElem (by omega)⟩
  have hv : valS s i = y := by unfold valS; rw [if_pos hq1d, hy]; rfl
  refine Wr ?_
  refine Oy rfl (Yl.fieldL 0 (fa_105_0) rfl rfl) ?_
  refine Oy rfl (Yl.fieldL 6 (fa_53_3) rfl rfl) ?_
  refine Oy rfl (Yl.load1 Tryz.isAgg51 rfl (by repeat constructor) (by repeat constructor)) ?_
  refine Oy rfl (Yl.move rfl) ?_
  refine OW.fact (Sl.isSome (sz := 1) (by repeat constructor) (by omega)) ?_
  rintro ⟨p1, hp1⟩; try dsimp only at hp1
  subst hp1
  refine Oy rfl (Yl.indexS i ⟨Tryz.underlying51, Tryz.sizeOf2⟩ rfl rfl rfl (by omega)) ?_
  refine Oy rfl (Yl.loadS0 Tryz.isAgg2 rfl (by repeat constructor) (map_at hy) (by repeat constructor)) ?_
  refine Oy rfl (Yl.assign rfl) ?_
  refine OW.nil ?_
  refine W.ret ?_
  refine Fin.mk (Rsl.one rfl rfl) ⟨?_, rfl⟩ (by repeat constructor) (by repeat constructor)
  rw [hv]
 ·have hq1d := of_decide_eq_false hq1
  have hv : valS s i = lAtV s.Line (rAtV s.Runs i - firstS s) := by unfold valS; rw [if_neg hq1d, e1]
  refine W.skip ?_
  refine Wr ?_
  refine Oy rfl (Yl.load ⟨Tryz.isAgg105, Tryz.sizeOf105⟩ rfl (by repeat constructor) (by repeat constructor)) ?_
  refine OW.callv (Wn.plain rfl) rfl Tryz.call169 rfl (c_span _ _ (by assumption)) (by repeat constructor) ?_
  refine Oy rfl (Yl.move rfl) ?_
  refine Oy rfl (Yl.extract rfl (by repeat constructor)) ?_
  refine Oy rfl (Yl.extract rfl (by repeat constructor)) ?_
  refine Oy rfl (Yl.assign rfl) ?_
  refine Oy rfl (Yl.assign rfl) ?_
  refine OW.nil ?_
  refine Wr ?_
  refine Oy rfl (Yl.fieldL 0 (fa_105_0) rfl rfl) ?_
  refine Oy rfl (Yl.fieldL 1 (fa_53_1) rfl rfl) ?_
  refine Oy rfl (Yl.load1 Tryz.isAgg50 rfl (by repeat constructor) (by repeat constructor)) ?_
  refine Oy rfl (Yl.move rfl) ?_
  refine OW.callv (Wn.plain rfl) rfl Tryz.call170 rfl (c_rAt _ _ _ (i : Int) (by omega)) (by repeat constructor) ?_
  refine Oy rfl (Yl.move rfl) ?_
  refine Oy rfl (Yl.extract rfl (by repeat constructor)) ?_
  refine Oy rfl (Yl.extract rfl (by repeat constructor)) ?_
  refine Oy rfl (Yl.assign rfl) ?_
  refine Oy rfl (Yl.assign rfl) ?_
  refine OW.nil ?_
  refine Wr ?_
  refine Oy rfl (Yl.fieldL 0 (fa_105_0) rfl rfl) ?_
  refine Oy rfl (Yl.fieldL 2 (fa_53_2) rfl rfl) ?_
  refine Oy rfl (Yl.load ⟨Tryz.isAgg37, Tryz.sizeOf37⟩ rfl (by repeat constructor) (by repeat constructor)) ?_
  refine Oy rfl (Yl.move rfl) ?_
  refine Oy rfl (Yl.move rfl) ?_
  refine Oy rfl (Yl.sub rfl rfl (by omega)) ?_
  refine OW.callv (Wn.plain rfl) rfl Tryz.call171 rfl ((c_At s.Line (rAtV s.Runs i - firstS s)).cast (lAt_eq _ _)) (by repeat constructor) ?_
  refine Oy rfl (Yl.move rfl) ?_
  refine Oy rfl (Yl.extract rfl (by repeat constructor)) ?_
  refine Oy rfl (Yl.extract rfl (by repeat constructor)) ?_
  refine Oy rfl (Yl.assign rfl) ?_
  refine Oy rfl (Yl.assign rfl) ?_
  refine OW.nil ?_
  refine Wr ?_
  refine Oy rfl (Yl.move rfl) ?_
  refine Oy rfl (Yl.assign rfl) ?_
  refine OW.nil ?_
  refine W.ret ?_
  refine Fin.mk (Rsl.one rfl rfl) ⟨?_, rfl⟩ (by repeat constructor) (by repeat constructor)
  rw [hv]

theorem ptsF_get (s : Sg) : ∀ (ts : List Int) (k i : Nat), (ptsF s k ts)[i]? = (ts[i]?).map fun t => ⟨t, valS s (k + i)⟩
  | [], k, i => by simp [ptsF]
  | t :: ts, k, 0 => by simp [ptsF]
  | t :: ts, k, i + 1 => by
    have := ptsF_get s ts (k + 1) i
    simp only [ptsF, List.getElem?_cons_succ, this]
    rw [show k + 1 + i = k + (i + 1) from by omega]
theorem ptsF_len (s : Sg) : ∀ (ts : List Int) (k : Nat), (ptsF s k ts).length = ts.length
  | [], k => rfl
  | t :: ts, k => by simp [ptsF, ptsF_len s ts (k + 1)]
theorem ptsS_get {s : Sg} {i : Nat} {t : Int} (h : (timesR s.Runs)[i]? = some t) : (ptsS s)[i]? = some ⟨t, valS s i⟩ := by
 unfold ptsS
 rw [ptsF_get, h]; simp
theorem ptsS_len (s : Sg) : (ptsS s).length = (timesR s.Runs).length := ptsF_len _ _ _
theorem timesR_many {l : List Rn} (h : risesM l = true) : ((timesR l).length : Int) = manyR l := timesR_len fun r hr => (risesL_all (risesM_t h).2.1 r hr).1
theorem c_rTimes_ok (l : List Rn) (a : Option Addr) (c : Nat) (h : risesM l = true) : FnC Tryz.prog 112 #[.slice a l.length c] [rowI 3 encR l a c] (fun v L' => ∃ a' c', v = .tuple [.slice a' (timesR l).length c', .int .i64 0].toArray ∧ L' = [rowI 1 encI (timesR l) a' c']) :=
  (c_rTimes l a c).mono fun v L' hx => by
    rcases hx with ⟨h1, _⟩ | ⟨_, h2⟩
    · rw [h] at h1; cases h1
    · exact h2

theorem i_gpts (s : Sg) (xa : SgA) (bp : Nat) (h : segM s = true) : Iter Tryz.prog 110 [] [.pointer (some ⟨bp, 0, none⟩)] [.cell bp (encG s xa) 105, rowI 3 encR s.Runs xa.ra xa.rc, rowI 1 encI s.Raw xa.wa xa.wc] [] (ptsS s) (fun p vs Lx => vs = [.agg (encT p).toArray] ∧ Lx = []) := by
 intro yv S Sx I R Ix Rx s0 h0 hyld
 refine FnC.go (m := 33) Tryz.func110 Tryz.ntmps110 rfl (Nat.le_of_ble_eq_true rfl) (fun Lf => ?_)
 obtain ⟨_, _, hr, hkm⟩ := segM_t h
 have hm := manyR_1 hr
 have htn := timesR_many hr
 refine W.scope ?_
 refine Wr ?_
 refine Oy rfl (Yl.load ⟨Tryz.isAgg105, Tryz.sizeOf105⟩ rfl (by repeat constructor) (by repeat constructor)) ?_
 refine Oy rfl (Yl.makeFunc rfl rfl) ?_
 refine Oy rfl (Yl.assign rfl) ?_
 refine OW.nil ?_
 refine Wr ?_
 refine Oy rfl (Yl.fieldL 0 (fa_105_0) rfl rfl) ?_
 refine Oy rfl (Yl.fieldL 1 (fa_53_1) rfl rfl) ?_
 refine Oy rfl (Yl.load1 Tryz.isAgg50 rfl (by repeat constructor) (by repeat constructor)) ?_
 refine OW.call (Wn.plain rfl) rfl rfl rfl (FnC.tri0 Tryz.call112 (c_rTimes_ok _ _ _ hr)) (by repeat constructor) ?_
 rintro _ _ ⟨ta, tc, rfl, rfl⟩
 refine Oy rfl (Yl.move rfl) ?_
 refine Oy rfl (Yl.extract rfl (by repeat constructor)) ?_
 refine Oy rfl (Yl.extract rfl (by repeat constructor)) ?_
 refine Oy rfl (Yl.assign rfl) ?_
 refine Oy rfl (Yl.assign rfl) ?_
 refine OW.nil ?_
 refine W.seq ?_
 refine W.label ?_
 refine Wr ?_
 refine Oy rfl (Yl.move rfl) ?_
 refine Oy rfl (Yl.len ⟨Tryz.underlying51, Tryz.sizeOf2⟩ rfl) ?_
 refine Oy rfl (Yl.move rfl) ?_
 refine OW.nil ?_
 refine W.block ?_
 refine W.loopS (X := (Nat) × (S)) (fun (x : (Nat) × (S)) => match x with | (i, u) => (i ≤ (timesR s.Runs).length ∧ (I i u) : Prop)) (fun (x : (Nat) × (S)) => match x with | (i, u) => ([(19, .int .i64 (i : Int))] : Env)) (fun (x : (Nat) × (S)) => match x with | (i, u) => (([rowI 1 encI (timesR s.Runs) ta tc, rowI 3 encR s.Runs xa.ra xa.rc, rowI 1 encI s.Raw xa.wa xa.wc] ++ R u) : List Res)) (fun (x : (Nat) × (S)) => match x with | (i, u) => ((timesR s.Runs).length - i : Nat)) (0, s0) [(0, _), (3, _), (17, _), (18, _)] (by exact ⟨Nat.zero_le _, h0⟩) (Le.cons rfl (Le.cons rfl (Le.cons rfl (Le.cons rfl (Le.cons rfl (Le.nil _)))))) (by repeat constructor) ?_
 rintro ⟨i, u⟩ ⟨hi, hinv⟩
 show W _ _ _ _ _ _ ([(19, .int .i64 (i : Int))] ++ _) _ (([rowI 1 encI (timesR s.Runs) ta tc, rowI 3 encR s.Runs xa.ra xa.rc, rowI 1 encI s.Raw xa.wa xa.wc] ++ R u) ++ _)
 refine Wr ?_
 refine Oy rfl (Yl.lss rfl rfl) ?_
 refine OW.nil ?_
 refine W.seq ?_
 refine W.cond rfl (fun hq1 => ?_) (fun hq1 => ?_)
 ·have hq1d := of_decide_eq_true hq1
  obtain ⟨y, hy, hdr⟩ := drop_at (l := (timesR s.Runs)) (i := i) (by omega)
  refine W.skip ?_
  refine W.seq ?_
  refine W.block ?_
  refine Wr ?_
  refine Oy rfl (Yl.move rfl) ?_
  refine OW.fact (Sl.isSome (a := ta) (by repeat constructor) (by omega)) ?_
  rintro ⟨p1, hp1⟩; try dsimp only at hp1
  subst hp1
  refine Oy rfl (Yl.indexS i ⟨Tryz.underlying51, Tryz.sizeOf2⟩ rfl rfl rfl (by omega)) ?_
  refine Oy rfl (Yl.loadS0 Tryz.isAgg2 rfl (by repeat constructor) (map_at hy) (by repeat constructor)) ?_
  refine Oy rfl (Yl.assign rfl) ?_
  refine Oy rfl (Yl.assign rfl) ?_
  refine OW.nil ?_
  refine Wr ?_
  refine Oy rfl (Yl.move rfl) ?_
  refine Oy rfl (Yl.move rfl) ?_
  refine Oy rfl (Yl.move rfl) ?_
  refine Oy rfl (Yl.move rfl) ?_
  refine OW.call (Wn.plain rfl) rfl rfl rfl (FnC.triC Tryz.call111 (c_gvalue s xa i h (by omega))) (by repeat constructor) ?_
  rintro _ _ ⟨rfl, rfl⟩
  refine Oy rfl (Yl.build (is := [0, 1]) (xs := [.tmp 25, .tmp 28]) st_34 rfl rfl (by repeat constructor)) ?_
  refine OW.yield (Wn.plain rfl) rfl rfl rfl (by repeat constructor) (by repeat constructor) (hyld i ⟨y, valS s i⟩ u _ [] (ptsS_get hy) ⟨rfl, rfl⟩ hinv) ?_ ?_
  ·rintro s' hI'
   refine Oy rfl (Yl.not rfl) ?_
   refine OW.nil ?_
   refine W.cond_f1 rfl (bnot_t rfl) ?_
   refine W.skip ?_
   refine W.region ?_
   refine Oy rfl (Yl.add rfl rfl (by omega)) ?_
   refine Oy rfl (Yl.move rfl) ?_
   refine OW.nil ?_
   refine ⟨(i + 1, s'), _, ⟨by omega, ?_⟩, (Le.cons rfl (Le.cons rfl (Le.cons rfl (Le.cons rfl (Le.cons rfl (Le.nil _)))))), rfl, by repeat constructor, by repeat constructor, by first | omega | (dsimp only; omega)⟩
   exact hI'
  ·rintro s' hX
   refine Oy rfl (Yl.not rfl) ?_
   refine OW.nil ?_
   refine W.cond_t1 rfl (bnot_f rfl) ?_
   refine W.exit ?_
   first | exact Fin.mk (Rsl.none rfl) (.inr ⟨_, hX, rfl⟩) (by repeat constructor) (by repeat constructor) | exact Fin.mk (Rsl.none rfl) (.inl ⟨_, hinv, rfl⟩) (by repeat constructor) (by repeat constructor)
 ·have hq1d := of_decide_eq_false hq1
  have hil : i = (ptsS s).length := by rw [ptsS_len]; omega
  subst hil
  refine W.exit ?_
  first | exact Fin.mk (Rsl.none rfl) (.inr ⟨_, hX, rfl⟩) (by repeat constructor) (by repeat constructor) | exact Fin.mk (Rsl.none rfl) (.inl ⟨_, hinv, rfl⟩) (by repeat constructor) (by repeat constructor)
theorem c_gpts (s : Sg) (xa : SgA) : FnC Tryz.prog 69 #[.agg (encG s xa).toArray] [] (fun v L' => ∃ bp, v = .func (.func 110) #[] #[.pointer (some ⟨bp, 0, none⟩)] ∧ L' = [.cell bp (encG s xa) 105]) := by
 refine FnC.go (m := 4) Tryz.func69 Tryz.ntmps69 rfl (Nat.le_of_ble_eq_true rfl) (fun Lf => ?_)
 refine Wr ?_
 refine OW.box (Wn.plain rfl) rfl rfl (by constructor) (fun b1 => ?_)
 refine Oy rfl (Yl.assign rfl) ?_
 refine OW.nil ?_
 refine Wr ?_
 refine Oy rfl (Yl.makeFunc rfl rfl) ?_
 refine Oy rfl (Yl.assign rfl) ?_
 refine OW.nil ?_
 refine W.ret ?_
 exact Fin.mk (Rsl.one rfl rfl) ⟨_, rfl, rfl⟩ (by repeat constructor) (by repeat constructor)

def farF : List Pt → List Pt → Int → Option Int
  | [], _, far => some far
  | _ :: _, [], far => some far
  | p :: own, q :: ps, far => if q.T ≠ p.T then none else if backM q.V then farF own ps (max (max far (q.V - p.V)) (p.V - q.V)) else none
def farV (s : Sg) (ps : List Pt) : Int := if (ps.length : Int) ≠ manyR s.Runs then 0 else (farF (ptsS s) ps 0).getD 0
def farE (s : Sg) (ps : List Pt) : Int := if (ps.length : Int) ≠ manyR s.Runs then 2 else if (farF (ptsS s) ps 0).isSome then 0 else 2
theorem farF_1 {p q : Pt} {own ps : List Pt} {far : Int} (h : q.T ≠ p.T) : farF (p :: own) (q :: ps) far = none := by simp [farF, h]
theorem farF_2 {p q : Pt} {own ps : List Pt} {far : Int} (h : backM q.V = false) : farF (p :: own) (q :: ps) far = none := by simp [farF, h]
theorem farF_3 {p q : Pt} {own ps : List Pt} {far : Int} (h : ¬ q.T ≠ p.T) (h2 : backM q.V = true) : farF (p :: own) (q :: ps) far = farF own ps (max (max far (q.V - p.V)) (p.V - q.V)) := by simp only [farF]; rw [if_neg h, if_pos h2]
theorem far_len {s : Sg} {ps : List Pt} (h : (ps.length : Int) ≠ manyR s.Runs) : farV s ps = 0 ∧ farE s ps = 2 := by simp [farV, farE, h]
theorem far_y {s : Sg} {ps : List Pt} {far : Int} (h : ¬ (ps.length : Int) ≠ manyR s.Runs) (h2 : farF (ptsS s) ps 0 = some far) : farV s ps = far ∧ farE s ps = 0 := by unfold farV farE; rw [if_neg h, if_neg h, h2]; exact ⟨rfl, rfl⟩
theorem far_n {s : Sg} {ps : List Pt} (h : ¬ (ps.length : Int) ≠ manyR s.Runs) (h2 : farF (ptsS s) ps 0 = none) : farV s ps = 0 ∧ farE s ps = 2 := by unfold farV farE; rw [if_neg h, if_neg h, h2]; exact ⟨rfl, rfl⟩
theorem drop_cons {α : Type} {l : List α} {i : Nat} {x : α} (h : l[i]? = some x) : l.drop i = x :: l.drop (i + 1) := by
 obtain ⟨hlt, rfl⟩ := List.getElem?_eq_some_iff.1 h
 exact List.drop_eq_getElem_cons hlt
theorem lt_of_get {α : Type} {l : List α} {i : Nat} {x : α} (h : l[i]? = some x) : i < l.length := (List.getElem?_eq_some_iff.1 h).1
theorem pts_back {s : Sg} (h : segM s = true) {i : Nat} {p : Pt} (hp : (ptsS s)[i]? = some p) : -2305844108725321728 ≤ p.V ∧ p.V ≤ 2305844108725321728 := by
 unfold ptsS at hp
 rw [ptsF_get] at hp
 cases ht : (timesR s.Runs)[i]? with
 | none => rw [ht] at hp; cases hp
 | some t =>
  rw [ht] at hp
  simp only [Option.map_some, Option.some.injEq] at hp
  subst hp
  exact back_t (valS_in h _)

theorem c_Far1 (s : Sg) (xa : SgA) (ps : List Pt) (pa : Option Addr) (pc pp : Nat) (h : segM s = true) : FnC Tryz.prog 175 #[.agg (encG s xa).toArray, .pointer (some ⟨pp, 0, none⟩)] [.cell pp [.slice pa ps.length pc] 22, rowI 3 encR s.Runs xa.ra xa.rc, rowI 1 encI s.Raw xa.wa xa.wc, rowI 2 encT ps pa pc] (fun v L' => v = .tuple [.int .i64 (farV s ps), .int .i64 (farE s ps)].toArray ∧ L' = []) := by
 refine FnC.go (m := 49) Tryz.func175 Tryz.ntmps175 rfl (Nat.le_of_ble_eq_true rfl) (fun Lf => ?_)
 obtain ⟨_, _, hr, hkm⟩ := segM_t h
 have hm := manyR_1 hr
 have htn := timesR_many hr
 have hpl := ptsS_len s
 refine Wr ?_
 refine OW.box (Wn.plain rfl) rfl rfl (by constructor) (fun b1 => ?_)
 refine OW.alloc (Wn.plain rfl) rfl Tryz.zeroValue2 (by constructor) (fun b2 => ?_)
 refine OW.alloc (Wn.plain rfl) rfl Tryz.zeroValue26 (by constructor) (fun b3 => ?_)
 refine OW.nil ?_
 refine W.seq ?_
 refine W.seq ?_
 refine W.draw mixed ?_
 refine Al (i := 0) rfl (Wn.plain rfl) rfl (by repeat constructor) (Yl.load1 Tryz.isAgg22 rfl .head (by repeat constructor)) ?_
 refine Aq (i := 1) rfl (Wn.plain rfl) rfl (fun _ => Yl.len ⟨Tryz.underlying22, Tryz.sizeOf34⟩ rfl) ?_
 refine Aq (i := 2) rfl (Wn.plain rfl) rfl (fun _ => Yl.fieldL 0 (fa_105_0) rfl rfl) ?_
 refine Aq (i := 3) rfl (Wn.plain rfl) rfl (fun _ => Yl.fieldL 1 (fa_53_1) rfl rfl) ?_
 refine Al (i := 4) rfl (Wn.plain rfl) rfl (by repeat constructor) (Yl.load1 Tryz.isAgg50 rfl .head (by repeat constructor)) ?_
 refine AW.step (i := 5) rfl (by kernel_rfl) (Wn.plain rfl) rfl (Ex.call rfl rfl rfl (FnC.tri0 Tryz.call64 ((c_rCount _ _ _).cast (v' := .int .i64 (manyR s.Runs)) (by rw [if_pos hr]))) (by repeat constructor)) (.drop (by kernel_rfl) (.keep (by kernel_rfl) .nil)) ?_
 rintro _ _ ⟨_, ⟨rfl, rfl⟩, rfl⟩; refine ⟨by repeat constructor, ?_⟩
 refine Aq (i := 6) rfl (Wn.plain rfl) rfl (fun _ => Yl.neq rfl rfl) ?_
 refine AW.done (by kernel_rfl) ?_
 refine W.cond rfl (fun hq1 => ?_) (fun hq1 => ?_)
 ·have hq1d := of_decide_eq_true hq1
  obtain ⟨ev, ee⟩ := far_len hq1d
  refine Wr ?_
  refine OW.store (Wn.plain rfl) Tryz.sizeOf2 rfl rfl (by constructor) (by repeat constructor) rfl (by repeat constructor) (by repeat constructor) ?_
  refine OW.store (Wn.plain rfl) Tryz.sizeOf26 rfl rfl (by constructor) (by repeat constructor) rfl (by repeat constructor) (by repeat constructor) ?_
  refine OW.nil ?_
  refine W.ret ?_
  refine Fin.mk (Rsl.of2 rfl (.cell1 Tryz.isAgg2 rfl (by repeat constructor) (by repeat constructor)) (.cell1 Tryz.isAgg26 rfl (by repeat constructor) (by repeat constructor))) ⟨?_, rfl⟩ (by repeat constructor) (by repeat constructor)
  rw [ev, ee]
 ·have hq1d := of_decide_eq_false hq1
  have hlen : (ps.length : Int) = manyR s.Runs := by omega
  refine W.skip ?_
  refine Wr ?_
  refine OW.alloc (Wn.plain rfl) rfl Tryz.zeroValue2 (by constructor) (fun b4 => ?_)
  refine OW.alloc (Wn.plain rfl) rfl Tryz.zeroValue3 (by constructor) (fun b5 => ?_)
  refine OW.store (Wn.plain rfl) Tryz.sizeOf2 rfl rfl (by constructor) (by repeat constructor) rfl (by repeat constructor) (by repeat constructor) ?_
  refine OW.store (Wn.plain rfl) Tryz.sizeOf3 rfl rfl (by constructor) (by repeat constructor) rfl (by repeat constructor) (by repeat constructor) ?_
  refine OW.nil ?_
  refine W.seq ?_
  refine Wr ?_
  refine Oy rfl (Yl.load ⟨Tryz.isAgg105, Tryz.sizeOf105⟩ rfl (by repeat constructor) (by repeat constructor)) ?_
  refine OW.call (Wn.plain rfl) rfl rfl rfl (FnC.tri0 Tryz.call69 (c_gpts _ _)) (by repeat constructor) ?_
  rintro _ _ ⟨bp, rfl, rfl⟩
  refine OW.nil ?_
  refine W.block ?_
  refine W.rangeF (S := (Int) × (Nat)) (fun (k : Nat) (x : (Int) × (Nat)) => match x with | (far, j) => (j = k ∧ farF (ptsS s) ps 0 = farF ((ptsS s).drop k) (ps.drop k) far ∧ 0 ≤ far ∧ far ≤ 4611688217450643456 : Prop)) (fun  (x : (Int) × (Nat)) => match x with | (far, j) => ([.cell b4 [.int .i64 far] 2, .cell b5 [.int .i64 (j : Int)] 3, .cell b2 [.int .i64 0] 2, .cell b3 [.int .i64 0] 26, .cell pp [.slice pa ps.length pc] 22, rowI 2 encT ps pa pc] : List Res)) (fun (ex : Exit) (x : (Int) × (Nat)) => match x with | (far, j) => (ex = .ret ∧ farF (ptsS s) ps 0 = none : Prop)) (fun  (x : (Int) × (Nat)) => match x with | (far, j) => ([.cell b4 [.int .i64 far] 2, .cell b5 [.int .i64 (j : Int)] 3, .cell b2 [.int .i64 0] 2, .cell b3 [.int .i64 2] 26, .cell pp [.slice pa ps.length pc] 22, rowI 2 encT ps pa pc] : List Res)) (0, 0) rfl Tryz.call110 (i_gpts s xa _ h) (by repeat constructor) (by exact ⟨rfl, rfl, by decide, by decide⟩) rfl (by rintro _ _ _ ⟨rfl, _⟩; rfl) ?_ ?_ ?_
  ·rintro lp k p ⟨far, j⟩ vs Lx hx ⟨rfl, rfl⟩ hI Lf
   show W _ _ _ _ _ _ _ [] ([] ++ [.cell b4 [.int .i64 far] 2, .cell b5 [.int .i64 (j : Int)] 3, .cell b2 [.int .i64 0] 2, .cell b3 [.int .i64 0] 26, .cell pp [.slice pa ps.length pc] 22, rowI 2 encT ps pa pc] ++ Lf)
   obtain ⟨rfl, i1, i2, i3⟩ := hI
   have hkl := lt_of_get hx
   obtain ⟨q, hq⟩ : ∃ q, ps[j]? = some q := ⟨_, List.getElem?_eq_getElem (by omega)⟩
   rw [drop_cons hx, drop_cons hq] at i1
   have hpv := pts_back h hx
   refine W.region ?_
   refine OW.alloc (Wn.plain rfl) rfl Tryz.zeroValue34 (by constructor) (fun b6 => ?_)
   refine OW.store (Wn.plain rfl) Tryz.sizeOf34 rfl rfl (by constructor) (by repeat constructor) rfl (by repeat constructor) (by repeat constructor) ?_
   refine OW.nil ?_
   refine ⟨rfl, _, by repeat constructor, fun Lf => ?_⟩
   refine W.block ?_
   refine Wr ?_
   refine Oy rfl (Yl.load1 Tryz.isAgg22 rfl (by repeat constructor) (by repeat constructor)) ?_
   refine Oy rfl (Yl.load1 Tryz.isAgg3 rfl (by repeat constructor) (by repeat constructor)) ?_
   refine OW.fact (Sl.isSome (a := pa) (by repeat constructor) (by omega)) ?_
   rintro ⟨p1, hp1⟩; try dsimp only at hp1
   subst hp1
   refine Oy rfl (Yl.indexS j ⟨Tryz.underlying22, Tryz.sizeOf34⟩ rfl rfl rfl (by omega)) ?_
   refine Oy rfl (Yl.loadE ⟨Tryz.isAgg34, Tryz.sizeOf34⟩ rfl (by repeat constructor) (map_at hq)) ?_
   refine OW.alloc (Wn.plain rfl) rfl Tryz.zeroValue34 (by constructor) (fun b7 => ?_)
   refine OW.store (Wn.plain rfl) Tryz.sizeOf34 rfl rfl (by constructor) (by repeat constructor) rfl (by repeat constructor) (by repeat constructor) ?_
   refine OW.nil ?_
   refine W.seq ?_
   refine Wr ?_
   refine Oy rfl (Yl.fieldL 0 (fa_34_0) rfl rfl) ?_
   refine Oy rfl (Yl.load1 Tryz.isAgg2 rfl (by repeat constructor) (by repeat constructor)) ?_
   refine Oy rfl (Yl.fieldL 0 (fa_34_0) rfl rfl) ?_
   refine Oy rfl (Yl.load1 Tryz.isAgg2 rfl (by repeat constructor) (by repeat constructor)) ?_
   refine Oy rfl (Yl.neq rfl rfl) ?_
   refine Oy rfl (Yl.move rfl) ?_
   refine OW.split (t := 28) rfl (fun hq2 => ?_) (fun hq2 => ?_)
   ·have hq2d := of_decide_eq_true hq2
    refine OW.not (Wn.not rfl rfl rfl hq2) rfl ?_
    refine OW.not (Wn.not rfl rfl rfl hq2) rfl ?_
    refine OW.not (Wn.not rfl rfl rfl hq2) rfl ?_
    refine OW.not (Wn.not rfl rfl rfl hq2) rfl ?_
    refine Oy rfl (Yl.pick_true rfl hq2 rfl) ?_
    refine OW.nil ?_
    refine W.cond_true rfl ?_
    refine Wr ?_
    refine OW.store (Wn.plain rfl) Tryz.sizeOf2 rfl rfl (by constructor) (by repeat constructor) rfl (by repeat constructor) (by repeat constructor) ?_
    refine OW.store (Wn.plain rfl) Tryz.sizeOf26 rfl rfl (by constructor) (by repeat constructor) rfl (by repeat constructor) (by repeat constructor) ?_
    refine OW.nil ?_
    refine W.ret ?_
    refine ⟨(far, j), ?_, EntL (by repeat constructor) (by repeat constructor)⟩
    first | exact ⟨rfl, by rw [i1]; exact farF_1 (by omega)⟩ | exact ⟨rfl, by rw [i1]; exact farF_2 hqn⟩
   ·have hq2d := of_decide_eq_false hq2
    refine OW.yl (Wn.run rfl rfl rfl hq2) rfl (Yl.fieldL 1 (fa_34_1) rfl rfl) ?_
    refine OW.yl (Wn.run rfl rfl rfl hq2) rfl (Yl.load1 Tryz.isAgg2 rfl (by repeat constructor) (by repeat constructor)) ?_
    refine OW.callv (Wn.run rfl rfl rfl hq2) rfl Tryz.call176 rfl (c_segback _) (by repeat constructor) ?_
    refine OW.yl (Wn.run rfl rfl rfl hq2) rfl (Yl.not rfl) ?_
    refine Oy rfl (Yl.pick_false rfl hq2 rfl) ?_
    refine OW.nil ?_
    refine W.cond rfl (fun hq3 => ?_) (fun hq3 => ?_)
    ·have hq3n := not_t hq3
     have hqn := not_t hq3
     refine Wr ?_
     refine OW.store (Wn.plain rfl) Tryz.sizeOf2 rfl rfl (by constructor) (by repeat constructor) rfl (by repeat constructor) (by repeat constructor) ?_
     refine OW.store (Wn.plain rfl) Tryz.sizeOf26 rfl rfl (by constructor) (by repeat constructor) rfl (by repeat constructor) (by repeat constructor) ?_
     refine OW.nil ?_
     refine W.ret ?_
     refine ⟨(far, j), ?_, EntL (by repeat constructor) (by repeat constructor)⟩
     first | exact ⟨rfl, by rw [i1]; exact farF_1 (by omega)⟩ | exact ⟨rfl, by rw [i1]; exact farF_2 hqn⟩
    ·have hq3n := not_f hq3
     have hqb := not_f hq3
     have hqv := back_t hqb
     refine W.skip ?_
     refine Wr ?_
     refine Oy rfl (Yl.load1 Tryz.isAgg2 rfl (by repeat constructor) (by repeat constructor)) ?_
     refine Oy rfl (Yl.fieldL 1 (fa_34_1) rfl rfl) ?_
     refine Oy rfl (Yl.load1 Tryz.isAgg2 rfl (by repeat constructor) (by repeat constructor)) ?_
     refine Oy rfl (Yl.fieldL 1 (fa_34_1) rfl rfl) ?_
     refine Oy rfl (Yl.load1 Tryz.isAgg2 rfl (by repeat constructor) (by repeat constructor)) ?_
     refine Oy rfl (Yl.sub rfl rfl (by omega)) ?_
     refine Oy rfl (Yl.fieldL 1 (fa_34_1) rfl rfl) ?_
     refine Oy rfl (Yl.load1 Tryz.isAgg2 rfl (by repeat constructor) (by repeat constructor)) ?_
     refine Oy rfl (Yl.fieldL 1 (fa_34_1) rfl rfl) ?_
     refine Oy rfl (Yl.load1 Tryz.isAgg2 rfl (by repeat constructor) (by repeat constructor)) ?_
     refine Oy rfl (Yl.sub rfl rfl (by omega)) ?_
     refine Oy rfl (Yl.max3 rfl rfl rfl) ?_
     refine OW.store (Wn.plain rfl) Tryz.sizeOf2 rfl rfl (by constructor) (by repeat constructor) rfl (by repeat constructor) (by repeat constructor) ?_
     refine OW.nil ?_
     refine W.region ?_
     refine Oy rfl (Yl.load1 Tryz.isAgg3 rfl (by repeat constructor) (by repeat constructor)) ?_
     refine Oy rfl (Yl.add rfl rfl (by omega)) ?_
     refine OW.store (Wn.plain rfl) Tryz.sizeOf3 rfl rfl (by constructor) (by repeat constructor) rfl (by repeat constructor) (by repeat constructor) ?_
     refine OW.nil ?_
     refine ⟨(max (max far (q.V - p.V)) (p.V - q.V), j + 1), ?_, EntL (by repeat constructor) (by repeat constructor)⟩
     exact ⟨rfl, by rw [i1]; exact farF_3 (by omega) hqb, by omega, by omega⟩
  ·rintro D1 ⟨far, j⟩ hI
   obtain ⟨rfl, i1, i2, i3⟩ := hI
   rw [List.drop_length] at i1
   obtain ⟨ev, ee⟩ := far_y (by omega) i1
   refine Wr ?_
   refine Oy rfl (Yl.load1 Tryz.isAgg2 rfl (by repeat constructor) (by repeat constructor)) ?_
   refine OW.store (Wn.plain rfl) Tryz.sizeOf2 rfl rfl (by constructor) (by repeat constructor) rfl (by repeat constructor) (by repeat constructor) ?_
   refine OW.store (Wn.plain rfl) Tryz.sizeOf26 rfl rfl (by constructor) (by repeat constructor) rfl (by repeat constructor) (by repeat constructor) ?_
   refine OW.nil ?_
   refine W.ret ?_
   refine Fin.marks [D1] rfl (by repeat constructor) ?_
   refine Fin.mk (Rsl.of2 rfl (.cell1 Tryz.isAgg2 rfl (by repeat constructor) (by repeat constructor)) (.cell1 Tryz.isAgg26 rfl (by repeat constructor) (by repeat constructor))) ⟨?_, rfl⟩ (by repeat constructor) (by repeat constructor)
   rw [ev, ee]
  ·rintro D1 ex ⟨far, j⟩ ⟨rfl, hI⟩
   obtain ⟨ev, ee⟩ := far_n (by omega) hI
   refine Fin.marks [D1] rfl (by repeat constructor) ?_
   refine Fin.mk (Rsl.of2 rfl (.cell1 Tryz.isAgg2 rfl (by repeat constructor) (by repeat constructor)) (.cell1 Tryz.isAgg26 rfl (by repeat constructor) (by repeat constructor))) ⟨?_, rfl⟩ (by repeat constructor) (by repeat constructor)
   rw [ev, ee]

theorem FnC.dropR {P : Program} {f : FuncId} {args : Array Value} {L : List Res} {R R' : Value → List Res → Prop} (h : FnC P f args L R) (hr : ∀ v L', R v L' → R' v []) : FnC P f args L R' := fun Lf κ w hs =>
  (h Lf κ w hs).mono fun _ _ ⟨v, L', h1, h2, h3⟩ => ⟨v, [], h1, hr _ _ h2, Ent.right L' κ _ h3⟩
theorem c_gofI0 (s : Sg) (xa : SgA) (tv : Value) (u e : Int) (Lt : List Res) (ht : segM s = true → Tri Tryz.prog tv #[.agg (encG s xa).toArray] Lt (fun v L' => v = .tuple [.int .i64 u, .int .i64 e].toArray ∧ L' = [])) :
    FnC Tryz.prog 174 #[.agg (encG s xa).toArray, tv] ([rowI 3 encR s.Runs xa.ra xa.rc, rowI 1 encI s.Raw xa.wa xa.wc] ++ Lt) (fun v L' => v = .tuple [.int .i64 (if segM s then u else 0), .int .i64 (if segM s then e else 210)].toArray ∧ L' = []) :=
  (c_gofI s xa tv u e Lt ht).dropR fun _ _ h => ⟨h.1, rfl⟩

theorem c_Far (s : Sg) (xa : SgA) (ps : List Pt) (pa : Option Addr) (pc : Nat) : FnC Tryz.prog 113 #[.agg (encG s xa).toArray, .slice pa ps.length pc] [rowI 3 encR s.Runs xa.ra xa.rc, rowI 1 encI s.Raw xa.wa xa.wc, rowI 2 encT ps pa pc] (fun v L' => v = .tuple [.int .i64 (if segM s then farV s ps else 0), .int .i64 (if segM s then farE s ps else 210)].toArray ∧ L' = []) := by
 refine FnC.go (m := 11) Tryz.func113 Tryz.ntmps113 rfl (Nat.le_of_ble_eq_true rfl) (fun Lf => ?_)
 refine Wr ?_
 refine OW.box (Wn.plain rfl) rfl rfl (by constructor) (fun b1 => ?_)
 refine OW.box (Wn.plain rfl) rfl rfl (by constructor) (fun b2 => ?_)
 refine Oy rfl (Yl.assign rfl) ?_
 refine Oy rfl (Yl.assign rfl) ?_
 refine OW.nil ?_
 refine Wr ?_
 refine Oy rfl (Yl.load ⟨Tryz.isAgg53, Tryz.sizeOf53⟩ rfl (by repeat constructor) (by repeat constructor)) ?_
 refine Oy rfl (Yl.makeFunc rfl rfl) ?_
 refine OW.call (Wn.plain rfl) rfl rfl rfl (FnC.tri0 Tryz.call174 (c_gofI0 s xa (.func (.func 175) #[] #[.pointer (some ⟨b2, 0, none⟩)]) (farV s ps) (farE s ps) [.cell b2 [.slice pa ps.length pc] 22, rowI 3 encR s.Runs xa.ra xa.rc, rowI 1 encI s.Raw xa.wa xa.wc, rowI 2 encT ps pa pc] (fun h => FnC.triC Tryz.call175 (c_Far1 s xa ps pa pc b2 h)))) (by repeat constructor) ?_
 rintro _ _ ⟨rfl, rfl⟩
 refine Oy rfl (Yl.extract rfl (by repeat constructor)) ?_
 refine Oy rfl (Yl.extract rfl (by repeat constructor)) ?_
 refine Oy rfl (Yl.assign rfl) ?_
 refine Oy rfl (Yl.assign rfl) ?_
 refine OW.nil ?_
 refine W.ret ?_
 refine Fin.mk (Rsl.two rfl rfl rfl) ⟨?_, rfl⟩ (by repeat constructor) (by repeat constructor)
 rfl

def seg0 : Sg := ⟨0, [], ⟨0, 0, 0, 0⟩, [], 0⟩
def madeS (s : Sg) : Sg := if segM s then s else seg0
def madeE (s : Sg) : Int := if segM s then 0 else 210
theorem segM_lens {s : Sg} (h : segM s = true) : s.Runs.length ≤ 256 ∧ s.Raw.length ≤ 256 := by
 obtain ⟨h1, _, hr, hk⟩ := segM_t h
 have hm := manyR_1 hr
 refine ⟨(risesM_t hr).1.2, ?_⟩
 by_cases h4 : s.Kind = 4
 ·rw [kindM_4 h4] at hk
  have := (rawM_t hk).2.1
  omega
 ·have h0 : s.Raw.length = 0 := by
   have key : lineIsM s = true := by
    rcases (show s.Kind = 1 ∨ s.Kind = 2 ∨ s.Kind = 3 by omega) with h | h | h
    ·rw [kindM_1 h] at hk; simp only [flatM, Bool.and_eq_true] at hk; exact hk.2
    ·rw [kindM_2 h] at hk; simp only [tiltM, Bool.and_eq_true] at hk; exact hk.2.2
    ·rw [kindM_3 h] at hk; simp only [freeM, Bool.and_eq_true] at hk; exact hk.2
   simp only [lineIsM, Bool.and_eq_true, decide_eq_true_eq] at key
   exact key.2
  omega
def RetSeg (s : Sg) (e : Int) : Value → List Res → Prop := fun v L' => ∃ xb : SgA, v = .tuple [.agg (encG s xb).toArray, .int .i64 e].toArray ∧ L' = [rowI 3 encR s.Runs xb.ra xb.rc, rowI 1 encI s.Raw xb.wa xb.wc]

theorem c_gmade1 (s : Sg) (xa : SgA) (h : segM s = true) : FnC Tryz.prog 249 #[.agg (encG s xa).toArray] [rowI 3 encR s.Runs xa.ra xa.rc, rowI 1 encI s.Raw xa.wa xa.wc] (RetSeg s 0) := by
 refine FnC.go (m := 18) Tryz.func249 Tryz.ntmps249 rfl (Nat.le_of_ble_eq_true rfl) (fun Lf => ?_)
 obtain ⟨hl1, hl2⟩ := segM_lens h
 refine Wr ?_
 refine OW.box (Wn.plain rfl) rfl rfl (by constructor) (fun b1 => ?_)
 refine OW.alloc (Wn.plain rfl) rfl Tryz.zeroValue53 (by constructor) (fun b2 => ?_)
 refine Oy rfl (Yl.assign rfl) ?_
 refine OW.nil ?_
 refine W.seq ?_
 refine W.draw mixed ?_
 refine Aq (i := 0) rfl (Wn.plain rfl) rfl (fun _ => Yl.fieldL 0 (fa_105_0) rfl rfl) ?_
 refine Aq (i := 1) rfl (Wn.plain rfl) rfl (fun _ => Yl.fieldL 1 (fa_53_1) rfl rfl) ?_
 refine Al (i := 2) rfl (Wn.plain rfl) rfl (by repeat constructor) (Yl.load1 Tryz.isAgg50 rfl .head (by repeat constructor)) ?_
 refine Aq (i := 4) rfl (Wn.plain rfl) rfl (fun _ => Yl.fieldL 0 (fa_105_0) rfl rfl) ?_
 refine Aq (i := 5) rfl (Wn.plain rfl) rfl (fun _ => Yl.fieldL 6 (fa_53_3) rfl rfl) ?_
 refine Al (i := 6) rfl (Wn.plain rfl) rfl (by repeat constructor) (Yl.load1 Tryz.isAgg51 rfl .head (by repeat constructor)) ?_
 refine AW.step (i := 3) rfl (by kernel_rfl) (Wn.plain rfl) rfl (Ex.call rfl rfl rfl (FnC.tri0 Tryz.call55 (c_cloneR s.Runs _ _ (by omega))) (by repeat constructor)) (.keep (by kernel_rfl) (.drop (by kernel_rfl) .nil)) ?_
 rintro _ _ ⟨_, ⟨na, nc, rfl, rfl⟩, rfl⟩; refine ⟨by repeat constructor, ?_⟩
 refine Aq (i := 8) rfl (Wn.plain rfl) rfl (fun _ => Yl.fieldL 0 (fa_105_0) rfl rfl) ?_
 refine Aq (i := 9) rfl (Wn.plain rfl) rfl (fun _ => Yl.fieldL 1 (fa_53_1) rfl rfl) ?_
 refine AW.step (i := 7) rfl (by kernel_rfl) (Wn.plain rfl) rfl (Ex.call rfl rfl rfl (FnC.tri0 Tryz.call56 (c_cloneI s.Raw _ _ (by omega))) (by repeat constructor)) (.drop (by kernel_rfl) .nil) ?_
 rintro _ _ ⟨_, ⟨ma, mc, rfl, rfl⟩, rfl⟩; refine ⟨by repeat constructor, ?_⟩
 refine AW.step (i := 10) rfl (by kernel_rfl) (Wn.plain rfl) rfl (Ex.store Tryz.sizeOf50 rfl rfl (by constructor) (by repeat constructor) rfl (by repeat constructor) (by repeat constructor)) .nil ?_
 rintro _ _ rfl; refine ⟨by repeat constructor, ?_⟩
 refine Aq (i := 11) rfl (Wn.plain rfl) rfl (fun _ => Yl.fieldL 0 (fa_105_0) rfl rfl) ?_
 refine Aq (i := 12) rfl (Wn.plain rfl) rfl (fun _ => Yl.fieldL 6 (fa_53_3) rfl rfl) ?_
 refine AW.step (i := 13) rfl (by kernel_rfl) (Wn.plain rfl) rfl (Ex.store Tryz.sizeOf51 rfl rfl (by constructor) (by repeat constructor) rfl (by repeat constructor) (by repeat constructor)) .nil ?_
 rintro _ _ rfl; refine ⟨by repeat constructor, ?_⟩
 refine AW.done (by kernel_rfl) ?_
 refine Wr ?_
 refine Oy rfl (Yl.fieldL 0 (fa_105_0) rfl rfl) ?_
 refine Oy rfl (Yl.load ⟨Tryz.isAgg53, Tryz.sizeOf53⟩ rfl (by repeat constructor) (by repeat constructor)) ?_
 refine OW.store (Wn.plain rfl) Tryz.sizeOf53 rfl rfl (by constructor) (by repeat constructor) rfl (by repeat constructor) (by repeat constructor) ?_
 refine Oy rfl (Yl.assign rfl) ?_
 refine OW.nil ?_
 refine W.ret ?_
 exact Fin.mk (Rsl.of2 rfl (.cell ⟨Tryz.isAgg53, Tryz.sizeOf53⟩ rfl (by repeat constructor) (by repeat constructor)) (.tmp rfl)) ⟨⟨na, nc, ma, mc⟩, rfl, rfl⟩ (by repeat constructor) (by repeat constructor)
theorem c_gofS (s : Sg) (xa : SgA) : FnC Tryz.prog 248 #[.agg (encG s xa).toArray, .func (.func 249) #[] #[]] [rowI 3 encR s.Runs xa.ra xa.rc, rowI 1 encI s.Raw xa.wa xa.wc] (RetSeg (madeS s) (madeE s)) := by
 refine FnC.go (m := 18) Tryz.func248 Tryz.ntmps248 rfl (Nat.le_of_ble_eq_true rfl) (fun Lf => ?_)
 refine Wr ?_
 refine OW.box (Wn.plain rfl) rfl rfl (by constructor) (fun b1 => ?_)
 refine OW.alloc (Wn.plain rfl) rfl Tryz.zeroValue53 (by constructor) (fun b2 => ?_)
 refine Oy rfl (Yl.assign rfl) ?_
 refine OW.nil ?_
 refine Wr ?_
 refine OW.alloc (Wn.plain rfl) rfl Tryz.zeroValue53 (by constructor) (fun b3 => ?_)
 refine OW.nil ?_
 refine W.seq ?_
 refine Wr ?_
 refine Oy rfl (Yl.load ⟨Tryz.isAgg53, Tryz.sizeOf53⟩ rfl (by repeat constructor) (by repeat constructor)) ?_
 refine Oy rfl (Yl.build (is := [0]) (xs := [.tmp 7]) st_105 rfl rfl (by repeat constructor)) ?_
 refine OW.callv (Wn.plain rfl) rfl Tryz.call61 rfl (c_gis _ _) (by repeat constructor) ?_
 refine Oy rfl (Yl.not rfl) ?_
 refine OW.nil ?_
 refine W.cond rfl (fun hq1 => ?_) (fun hq1 => ?_)
 ·have hq1n := not_t hq1
  have hr : segM s = false := by simpa using hq1
  have e1 : madeS s = seg0 := by simp [madeS, hr]
  have e2 : madeE s = 210 := by simp [madeE, hr]
  rw [e1, e2]
  refine Wr ?_
  refine Oy rfl (Yl.load ⟨Tryz.isAgg53, Tryz.sizeOf53⟩ rfl (by repeat constructor) (by repeat constructor)) ?_
  refine OW.store (Wn.plain rfl) Tryz.sizeOf53 rfl rfl (by constructor) (by repeat constructor) rfl (by repeat constructor) (by repeat constructor) ?_
  refine Oy rfl (Yl.assign rfl) ?_
  refine OW.nil ?_
  refine W.ret ?_
  exact Fin.ent (rowI.nil 3 encR) (Fin.ent (rowI.nil 1 encI) (Fin.mk (Rsl.of2 rfl (.cell ⟨Tryz.isAgg53, Tryz.sizeOf53⟩ rfl (by repeat constructor) (by repeat constructor)) (.tmp rfl)) ⟨⟨none, 0, none, 0⟩, rfl, rfl⟩ (by repeat constructor) (by repeat constructor)))
 ·have hq1n := not_f hq1
  have hr : segM s = true := by simpa using hq1
  have e1 : madeS s = s := by simp [madeS, hr]
  have e2 : madeE s = 0 := by simp [madeE, hr]
  rw [e1, e2]
  refine W.skip ?_
  refine Wr ?_
  refine Oy rfl (Yl.move rfl) ?_
  refine Oy rfl (Yl.load ⟨Tryz.isAgg53, Tryz.sizeOf53⟩ rfl (by repeat constructor) (by repeat constructor)) ?_
  refine Oy rfl (Yl.build (is := [0]) (xs := [.tmp 13]) st_105 rfl rfl (by repeat constructor)) ?_
  refine OW.call (Wn.plain rfl) rfl rfl rfl (FnC.triC Tryz.call249 (c_gmade1 s xa hr)) (by repeat constructor) ?_
  rintro _ _ ⟨xb, rfl, rfl⟩
  refine Oy rfl (Yl.extract rfl (by repeat constructor)) ?_
  refine Oy rfl (Yl.extract rfl (by repeat constructor)) ?_
  refine OW.store (Wn.plain rfl) Tryz.sizeOf53 rfl rfl (by constructor) (by repeat constructor) rfl (by repeat constructor) (by repeat constructor) ?_
  refine Oy rfl (Yl.assign rfl) ?_
  refine OW.nil ?_
  refine W.ret ?_
  exact Fin.mk (Rsl.of2 rfl (.cell ⟨Tryz.isAgg53, Tryz.sizeOf53⟩ rfl (by repeat constructor) (by repeat constructor)) (.tmp rfl)) ⟨xb, rfl, rfl⟩ (by repeat constructor) (by repeat constructor)
theorem c_gmade (s : Sg) (xa : SgA) : FnC Tryz.prog 196 #[.agg (encG s xa).toArray] [rowI 3 encR s.Runs xa.ra xa.rc, rowI 1 encI s.Raw xa.wa xa.wc] (RetSeg (madeS s) (madeE s)) := by
 refine FnC.go (m := 8) Tryz.func196 Tryz.ntmps196 rfl (Nat.le_of_ble_eq_true rfl) (fun Lf => ?_)
 refine Wr ?_
 refine OW.box (Wn.plain rfl) rfl rfl (by constructor) (fun b1 => ?_)
 refine OW.alloc (Wn.plain rfl) rfl Tryz.zeroValue53 (by constructor) (fun b2 => ?_)
 refine Oy rfl (Yl.assign rfl) ?_
 refine OW.nil ?_
 refine Wr ?_
 refine Oy rfl (Yl.load ⟨Tryz.isAgg53, Tryz.sizeOf53⟩ rfl (by repeat constructor) (by repeat constructor)) ?_
 refine OW.call (Wn.plain rfl) rfl rfl rfl (FnC.tri0 Tryz.call248 (c_gofS s xa)) (by repeat constructor) ?_
 rintro _ _ ⟨xb, rfl, rfl⟩
 refine Oy rfl (Yl.extract rfl (by repeat constructor)) ?_
 refine Oy rfl (Yl.extract rfl (by repeat constructor)) ?_
 refine OW.store (Wn.plain rfl) Tryz.sizeOf53 rfl rfl (by constructor) (by repeat constructor) rfl (by repeat constructor) (by repeat constructor) ?_
 refine Oy rfl (Yl.assign rfl) ?_
 refine OW.nil ?_
 refine W.ret ?_
 exact Fin.mk (Rsl.of2 rfl (.cell ⟨Tryz.isAgg53, Tryz.sizeOf53⟩ rfl (by repeat constructor) (by repeat constructor)) (.tmp rfl)) ⟨xb, rfl, rfl⟩ (by repeat constructor) (by repeat constructor)

def rawS (l : List Rn) (vs : List Int) (far : Int) : Sg := ⟨4, l, ⟨0, 0, 0, 0⟩, vs, far⟩
def kindL (x : Lin) : Int := if lineM x then (if x.N = 0 then 1 else if x.R = 0 then 2 else 3) else 0
def linS (l : List Rn) (x : Lin) (far : Int) : Sg := ⟨kindL x, l, x, [], far⟩

theorem c_gRaw (l : List Rn) (vs : List Int) (far : Int) (la : Option Addr) (lc : Nat) (wa : Option Addr) (wc : Nat) : FnC Tryz.prog 124 #[.slice la l.length lc, .slice wa vs.length wc, .int .i64 far] [rowI 3 encR l la lc, rowI 1 encI vs wa wc] (RetSeg (madeS (rawS l vs far)) (madeE (rawS l vs far))) := by
 refine FnC.go (m := 15) Tryz.func124 Tryz.ntmps124 rfl (Nat.le_of_ble_eq_true rfl) (fun Lf => ?_)
 refine Wr ?_
 refine OW.alloc (Wn.plain rfl) rfl Tryz.zeroValue53 (by constructor) (fun b1 => ?_)
 refine Oy rfl (Yl.assign rfl) ?_
 refine OW.nil ?_
 refine Wr ?_
 refine Oy rfl (Yl.move rfl) ?_
 refine Oy rfl (Yl.move rfl) ?_
 refine Oy rfl (Yl.move rfl) ?_
 refine Oy rfl (Yl.build (is := [0, 1, 3, 4]) (xs := [.const (.int .i64 4), .tmp 8, .tmp 9, .tmp 10]) st_53 rfl rfl (by repeat constructor)) ?_
 refine OW.call (Wn.plain rfl) rfl rfl rfl (FnC.tri0 Tryz.call196 (c_gmade (rawS l vs far) ⟨la, lc, wa, wc⟩)) (by repeat constructor) ?_
 rintro _ _ ⟨xb, rfl, rfl⟩
 refine Oy rfl (Yl.extract rfl (by repeat constructor)) ?_
 refine Oy rfl (Yl.extract rfl (by repeat constructor)) ?_
 refine OW.store (Wn.plain rfl) Tryz.sizeOf53 rfl rfl (by constructor) (by repeat constructor) rfl (by repeat constructor) (by repeat constructor) ?_
 refine Oy rfl (Yl.assign rfl) ?_
 refine OW.nil ?_
 refine W.ret ?_
 exact Fin.mk (Rsl.of2 rfl (.cell ⟨Tryz.isAgg53, Tryz.sizeOf53⟩ rfl (by repeat constructor) (by repeat constructor)) (.tmp rfl)) ⟨xb, rfl, rfl⟩ (by repeat constructor) (by repeat constructor)
theorem c_gKind (x : Lin) : FnV Tryz.prog 197 #[.agg (encL x).toArray] [] (.int .i64 (kindL x)) := by
 refine FnC.go (m := 15) Tryz.func197 Tryz.ntmps197 rfl (Nat.le_of_ble_eq_true rfl) (fun Lf => ?_)
 refine Wr ?_
 refine OW.box (Wn.plain rfl) rfl rfl (by constructor) (fun b1 => ?_)
 refine Oy rfl (Yl.assign rfl) ?_
 refine OW.nil ?_
 refine W.seq ?_
 refine W.block ?_
 refine Wr ?_
 refine Oy rfl (Yl.load ⟨Tryz.isAgg37, Tryz.sizeOf37⟩ rfl (by repeat constructor) (by repeat constructor)) ?_
 refine OW.callv (Wn.plain rfl) rfl Tryz.call250 rfl (c_lCheck x) (by repeat constructor) ?_
 refine Oy rfl (Yl.neq rfl rfl) ?_
 refine Oy rfl (Yl.assign rfl) ?_
 refine OW.nil ?_
 refine W.cond rfl (fun hq1 => ?_) (fun hq1 => ?_)
 ·have hq1d := of_decide_eq_true hq1
  have hk : kindL x = 0 := by have : lineM x = false := (by cases hx : lineM x; rfl; simp [hx] at hq1d); simp [kindL, this]
  refine Wr ?_
  refine Oy rfl (Yl.assign rfl) ?_
  refine OW.nil ?_
  refine W.ret ?_
  refine Fin.mk (Rsl.one rfl rfl) ⟨?_, rfl⟩ (by repeat constructor) (by repeat constructor)
  rw [hk]
 ·have hq1d := of_decide_eq_false hq1
  have hlm : lineM x = true := by cases hx : lineM x; simp [hx] at hq1d; rfl
  refine Wr ?_
  refine Oy rfl (Yl.fieldL 2 (fa_37_2) rfl rfl) ?_
  refine Oy rfl (Yl.load1 Tryz.isAgg2 rfl (by repeat constructor) (by repeat constructor)) ?_
  refine Oy rfl (Yl.eql rfl rfl) ?_
  refine Oy rfl (Yl.assign rfl) ?_
  refine OW.nil ?_
  refine W.cond rfl (fun hq2 => ?_) (fun hq2 => ?_)
  ·have hq2d := of_decide_eq_true hq2
   have hk : kindL x = 1 := by simp [kindL, hlm, hq2d]
   refine Wr ?_
   refine Oy rfl (Yl.assign rfl) ?_
   refine OW.nil ?_
   refine W.ret ?_
   refine Fin.mk (Rsl.one rfl rfl) ⟨?_, rfl⟩ (by repeat constructor) (by repeat constructor)
   rw [hk]
  ·have hq2d := of_decide_eq_false hq2
   refine Wr ?_
   refine Oy rfl (Yl.fieldL 1 (fa_37_1) rfl rfl) ?_
   refine Oy rfl (Yl.load1 Tryz.isAgg2 rfl (by repeat constructor) (by repeat constructor)) ?_
   refine Oy rfl (Yl.eql rfl rfl) ?_
   refine Oy rfl (Yl.assign rfl) ?_
   refine OW.nil ?_
   refine W.cond rfl (fun hq3 => ?_) (fun hq3 => ?_)
   ·have hq3d := of_decide_eq_true hq3
    have hk : kindL x = 2 := by simp [kindL, hlm, hq2d, hq3d]
    refine Wr ?_
    refine Oy rfl (Yl.assign rfl) ?_
    refine OW.nil ?_
    refine W.ret ?_
    refine Fin.mk (Rsl.one rfl rfl) ⟨?_, rfl⟩ (by repeat constructor) (by repeat constructor)
    rw [hk]
   ·have hq3d := of_decide_eq_false hq3
    have hk : kindL x = 3 := by simp [kindL, hlm, hq2d, hq3d]
    refine W.skip ?_
    refine Wr ?_
    refine Oy rfl (Yl.assign rfl) ?_
    refine OW.nil ?_
    refine W.ret ?_
    refine Fin.mk (Rsl.one rfl rfl) ⟨?_, rfl⟩ (by repeat constructor) (by repeat constructor)
    rw [hk]
theorem c_gOf (l : List Rn) (x : Lin) (far : Int) (la : Option Addr) (lc : Nat) : FnC Tryz.prog 126 #[.slice la l.length lc, .agg (encL x).toArray, .int .i64 far] [rowI 3 encR l la lc] (RetSeg (madeS (linS l x far)) (madeE (linS l x far))) := by
 refine FnC.go (m := 17) Tryz.func126 Tryz.ntmps126 rfl (Nat.le_of_ble_eq_true rfl) (fun Lf => ?_)
 refine W.ent (rowI.nil 1 encI) ?_
 refine Wr ?_
 refine OW.box (Wn.plain rfl) rfl rfl (by constructor) (fun b1 => ?_)
 refine OW.alloc (Wn.plain rfl) rfl Tryz.zeroValue53 (by constructor) (fun b2 => ?_)
 refine Oy rfl (Yl.assign rfl) ?_
 refine OW.nil ?_
 refine W.seq ?_
 refine W.draw mixed ?_
 refine Al (i := 0) rfl (Wn.plain rfl) rfl (by repeat constructor) (Yl.load ⟨Tryz.isAgg37, Tryz.sizeOf37⟩ rfl .head (by repeat constructor)) ?_
 refine Aq (i := 2) rfl (Wn.plain rfl) rfl (fun _ => Yl.move rfl) ?_
 refine Al (i := 3) rfl (Wn.plain rfl) rfl (by repeat constructor) (Yl.load ⟨Tryz.isAgg37, Tryz.sizeOf37⟩ rfl .head (by repeat constructor)) ?_
 refine Aq (i := 4) rfl (Wn.plain rfl) rfl (fun _ => Yl.move rfl) ?_
 refine AW.step (i := 1) rfl (by kernel_rfl) (Wn.plain rfl) rfl (Ex.call rfl rfl rfl (FnC.tri0 Tryz.call197 (c_gKind x)) (by repeat constructor)) (.keep (by kernel_rfl) (.drop (by kernel_rfl) .nil)) ?_
 rintro _ _ ⟨_, ⟨rfl, rfl⟩, rfl⟩; refine ⟨by repeat constructor, ?_⟩
 refine Aq (i := 5) rfl (Wn.plain rfl) rfl (fun _ => Yl.build (is := [0, 1, 2, 4]) (xs := [.tmp 9, .tmp 10, .tmp 11, .tmp 12]) st_53 rfl rfl (by repeat constructor)) ?_
 refine AW.step (i := 6) rfl (by kernel_rfl) (Wn.plain rfl) rfl (Ex.call rfl rfl rfl (FnC.tri0 Tryz.call196 (c_gmade (linS l x far) ⟨la, lc, none, 0⟩)) (by repeat constructor)) (.keep (by kernel_rfl) .nil) ?_
 rintro _ _ ⟨_, ⟨xb, rfl, rfl⟩, rfl⟩; refine ⟨by repeat constructor, ?_⟩
 refine Aq (i := 7) rfl (Wn.plain rfl) rfl (fun _ => Yl.extract rfl (by repeat constructor)) ?_
 refine Aq (i := 8) rfl (Wn.plain rfl) rfl (fun _ => Yl.extract rfl (by repeat constructor)) ?_
 refine AW.step (i := 9) rfl (by kernel_rfl) (Wn.plain rfl) rfl (Ex.store Tryz.sizeOf53 rfl rfl (by constructor) (by repeat constructor) rfl (by repeat constructor) (by repeat constructor)) (.drop (by kernel_rfl) .nil) ?_
 rintro _ _ rfl; refine ⟨by repeat constructor, ?_⟩
 refine Aq (i := 10) rfl (Wn.plain rfl) rfl (fun _ => Yl.assign rfl) ?_
 refine AW.done (by kernel_rfl) ?_
 refine W.ret ?_
 exact Fin.mk (Rsl.of2 rfl (.cell ⟨Tryz.isAgg53, Tryz.sizeOf53⟩ rfl (by repeat constructor) (by repeat constructor)) (.tmp rfl)) ⟨xb, rfl, rfl⟩ (by repeat constructor) (by repeat constructor)
end Go.Yb
