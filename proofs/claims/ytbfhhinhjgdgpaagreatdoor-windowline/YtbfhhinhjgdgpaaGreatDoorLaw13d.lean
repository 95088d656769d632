/-
  A part of the proof of windowLine_holds: see the text that holds it. No conditions of its own.
-/
import Derived.Test.YtbfhhinhjgdgpaaGreatDoorLaw13c
import Derived.Test.YtbfhhinhjgdgpaaGreatDoorWinL
namespace Go.Yb
open Go Go.Proofs Go.RowKit

theorem within_step {c : Lin} {t0 : Int} {l : List Bnd} {i : Nat} {y : Bnd} (h : ∀ a ∈ l.take i, withinM c (a.T - t0) a.Lo a.Hi = true) (hy : l[i]? = some y) (hw : withinM c (y.T - t0) y.Lo y.Hi = true) : ∀ a ∈ l.take (i + 1), withinM c (a.T - t0) a.Lo a.Hi = true := fun a ha => by
  rw [take_at hy] at ha
  rcases List.mem_append.1 ha with ha | ha
  · exact h a ha
  · rw [List.mem_singleton.1 ha]; exact hw
theorem c_WL_n (x : List Pt) (a : Option Addr) (c : Nat) (eps : Int) (cl : Lin) (hp : pointsM (x.take 40) = false) : FnV Tryz.prog 4 #[.slice a x.length c, .int .i64 eps, .agg (encL cl).toArray] [rowI 2 encT x a c, glob0] (.bool true) := by
 refine FnC.go (m := 73) Tryz.func4 Tryz.ntmps4 rfl (Nat.le_of_ble_eq_true rfl) (fun Lf => ?_)
 have hb : bothE (x.take 40) eps = 230 := bothE_n hp
 refine Wr ?_
 refine OW.box (Wn.plain rfl) rfl rfl (by constructor) (fun b1 => ?_)
 refine Oy rfl (Yl.assign rfl) ?_
 refine OW.nil ?_
 refine W.seq ?_
 refine Wr ?_
 refine OW.callv (Wn.plain rfl) rfl Tryz.call9 rfl (c_wakes13) (by repeat constructor) ?_
 refine Oy rfl (Yl.not rfl) ?_
 refine OW.nil ?_
 refine W.cond_f1 rfl rfl ?_
 refine W.skip ?_
 refine Wr ?_
 refine Oy rfl (Yl.move rfl) ?_
 refine OW.call (Wn.plain rfl) rfl rfl rfl (FnC.tri0 Tryz.call10 (c_own x _ _)) (by repeat constructor) ?_
 rintro _ _ ⟨o0a, o0c, rfl, rfl⟩
 refine Oy rfl (Yl.assign rfl) ?_
 refine OW.nil ?_
 refine Wr ?_
 refine Oy rfl (Yl.move rfl) ?_
 refine Oy rfl (Yl.move rfl) ?_
 refine OW.call (Wn.plain rfl) rfl rfl rfl (FnC.tri0 Tryz.call16 ((c_wBands_no (x.take 40) _ _ eps (by omega)).mono (R' := fun v L' => v = .tuple [.slice none 0 0, .int .i64 230].toArray ∧ L' = []) (fun v L' h => by rw [hb] at h; exact h))) (by repeat constructor) ?_
 rintro _ _ ⟨rfl, rfl⟩
 refine Oy rfl (Yl.move rfl) ?_
 refine Oy rfl (Yl.extract rfl (by repeat constructor)) ?_
 refine Oy rfl (Yl.extract rfl (by repeat constructor)) ?_
 refine Oy rfl (Yl.assign rfl) ?_
 refine Oy rfl (Yl.assign rfl) ?_
 refine OW.nil ?_
 refine Wr ?_
 refine Oy rfl (Yl.move rfl) ?_
 refine Oy rfl (Yl.move rfl) ?_
 refine OW.call (Wn.plain rfl) rfl rfl rfl (FnC.tri0 Tryz.call11 ((c_wWay_no (x.take 40) _ _ eps 3 (by omega)).mono (R' := fun v L' => v = .tuple [.slice none 0 0, .int .i64 230].toArray ∧ L' = []) (fun v L' h => by rw [hb] at h; exact h))) (by repeat constructor) ?_
 rintro _ _ ⟨rfl, rfl⟩
 refine Oy rfl (Yl.move rfl) ?_
 refine Oy rfl (Yl.extract rfl (by repeat constructor)) ?_
 refine Oy rfl (Yl.extract rfl (by repeat constructor)) ?_
 refine Oy rfl (Yl.assign rfl) ?_
 refine Oy rfl (Yl.assign rfl) ?_
 refine OW.nil ?_
 refine W.seq ?_
 refine Wr ?_
 refine Oy rfl (Yl.move rfl) ?_
 refine Oy rfl (Yl.neq rfl rfl) ?_
 refine Oy rfl (Yl.move rfl) ?_
 refine OW.not (Wn.not rfl rfl rfl (by first | decide | rfl)) rfl ?_
 refine OW.not (Wn.not rfl rfl rfl (by first | decide | rfl)) rfl ?_
 refine Oy rfl (Yl.pick_true rfl (by first | decide | rfl) rfl) ?_
 refine OW.nil ?_
 refine W.cond_true rfl ?_
 refine Wr ?_
 refine Oy rfl (Yl.move rfl) ?_
 refine Oy rfl (Yl.move rfl) ?_
 refine Oy rfl (Yl.eql rfl rfl) ?_
 refine Oy rfl (Yl.assign rfl) ?_
 refine OW.nil ?_
 refine W.ret ?_
 refine Fin.mk (Rsl.one rfl rfl) ⟨?_, rfl⟩ (by repeat constructor) (by repeat constructor)
 rfl
theorem c_WL_e (x : List Pt) (a : Option Addr) (c : Nat) (eps : Int) (cl : Lin) (hp : pointsM (x.take 40) = true) (hq : epsM eps = false) : FnV Tryz.prog 4 #[.slice a x.length c, .int .i64 eps, .agg (encL cl).toArray] [rowI 2 encT x a c, glob0] (.bool true) := by
 refine FnC.go (m := 73) Tryz.func4 Tryz.ntmps4 rfl (Nat.le_of_ble_eq_true rfl) (fun Lf => ?_)
 have hb : bothE (x.take 40) eps = 231 := bothE_e hp hq
 refine Wr ?_
 refine OW.box (Wn.plain rfl) rfl rfl (by constructor) (fun b1 => ?_)
 refine Oy rfl (Yl.assign rfl) ?_
 refine OW.nil ?_
 refine W.seq ?_
 refine Wr ?_
 refine OW.callv (Wn.plain rfl) rfl Tryz.call9 rfl (c_wakes13) (by repeat constructor) ?_
 refine Oy rfl (Yl.not rfl) ?_
 refine OW.nil ?_
 refine W.cond_f1 rfl rfl ?_
 refine W.skip ?_
 refine Wr ?_
 refine Oy rfl (Yl.move rfl) ?_
 refine OW.call (Wn.plain rfl) rfl rfl rfl (FnC.tri0 Tryz.call10 (c_own x _ _)) (by repeat constructor) ?_
 rintro _ _ ⟨o0a, o0c, rfl, rfl⟩
 refine Oy rfl (Yl.assign rfl) ?_
 refine OW.nil ?_
 refine Wr ?_
 refine Oy rfl (Yl.move rfl) ?_
 refine Oy rfl (Yl.move rfl) ?_
 refine OW.call (Wn.plain rfl) rfl rfl rfl (FnC.tri0 Tryz.call16 ((c_wBands_no (x.take 40) _ _ eps (by omega)).mono (R' := fun v L' => v = .tuple [.slice none 0 0, .int .i64 231].toArray ∧ L' = []) (fun v L' h => by rw [hb] at h; exact h))) (by repeat constructor) ?_
 rintro _ _ ⟨rfl, rfl⟩
 refine Oy rfl (Yl.move rfl) ?_
 refine Oy rfl (Yl.extract rfl (by repeat constructor)) ?_
 refine Oy rfl (Yl.extract rfl (by repeat constructor)) ?_
 refine Oy rfl (Yl.assign rfl) ?_
 refine Oy rfl (Yl.assign rfl) ?_
 refine OW.nil ?_
 refine Wr ?_
 refine Oy rfl (Yl.move rfl) ?_
 refine Oy rfl (Yl.move rfl) ?_
 refine OW.call (Wn.plain rfl) rfl rfl rfl (FnC.tri0 Tryz.call11 ((c_wWay_no (x.take 40) _ _ eps 3 (by omega)).mono (R' := fun v L' => v = .tuple [.slice none 0 0, .int .i64 231].toArray ∧ L' = []) (fun v L' h => by rw [hb] at h; exact h))) (by repeat constructor) ?_
 rintro _ _ ⟨rfl, rfl⟩
 refine Oy rfl (Yl.move rfl) ?_
 refine Oy rfl (Yl.extract rfl (by repeat constructor)) ?_
 refine Oy rfl (Yl.extract rfl (by repeat constructor)) ?_
 refine Oy rfl (Yl.assign rfl) ?_
 refine Oy rfl (Yl.assign rfl) ?_
 refine OW.nil ?_
 refine W.seq ?_
 refine Wr ?_
 refine Oy rfl (Yl.move rfl) ?_
 refine Oy rfl (Yl.neq rfl rfl) ?_
 refine Oy rfl (Yl.move rfl) ?_
 refine OW.not (Wn.not rfl rfl rfl (by first | decide | rfl)) rfl ?_
 refine OW.not (Wn.not rfl rfl rfl (by first | decide | rfl)) rfl ?_
 refine Oy rfl (Yl.pick_true rfl (by first | decide | rfl) rfl) ?_
 refine OW.nil ?_
 refine W.cond_true rfl ?_
 refine Wr ?_
 refine Oy rfl (Yl.move rfl) ?_
 refine Oy rfl (Yl.move rfl) ?_
 refine Oy rfl (Yl.eql rfl rfl) ?_
 refine Oy rfl (Yl.assign rfl) ?_
 refine OW.nil ?_
 refine W.ret ?_
 refine Fin.mk (Rsl.one rfl rfl) ⟨?_, rfl⟩ (by repeat constructor) (by repeat constructor)
 rfl
theorem c_WL_y (x : List Pt) (a : Option Addr) (c : Nat) (eps : Int) (cl : Lin) (hp : pointsM (x.take 40) = true) (hq : epsM eps = true) : FnV Tryz.prog 4 #[.slice a x.length c, .int .i64 eps, .agg (encL cl).toArray] [rowI 2 encT x a c, glob0] (.bool true) := by
 refine FnC.go (m := 73) Tryz.func4 Tryz.ntmps4 rfl (Nat.le_of_ble_eq_true rfl) (fun Lf => ?_)
 have hb : bothE (x.take 40) eps = 0 := bothE_y hp hq
 have he := (bothE_0 hb).2
 have hbm : bandsM ((x.take 40).map (bandP eps)) = true := bands_of hp he
 have hml := bandsM_len hbm
 refine Wr ?_
 refine OW.box (Wn.plain rfl) rfl rfl (by constructor) (fun b1 => ?_)
 refine Oy rfl (Yl.assign rfl) ?_
 refine OW.nil ?_
 refine W.seq ?_
 refine Wr ?_
 refine OW.callv (Wn.plain rfl) rfl Tryz.call9 rfl (c_wakes13) (by repeat constructor) ?_
 refine Oy rfl (Yl.not rfl) ?_
 refine OW.nil ?_
 refine W.cond_f1 rfl rfl ?_
 refine W.skip ?_
 refine Wr ?_
 refine Oy rfl (Yl.move rfl) ?_
 refine OW.call (Wn.plain rfl) rfl rfl rfl (FnC.tri0 Tryz.call10 (c_own x _ _)) (by repeat constructor) ?_
 rintro _ _ ⟨o0a, o0c, rfl, rfl⟩
 refine Oy rfl (Yl.assign rfl) ?_
 refine OW.nil ?_
 refine Wr ?_
 refine Oy rfl (Yl.move rfl) ?_
 refine Oy rfl (Yl.move rfl) ?_
 refine OW.call (Wn.plain rfl) rfl rfl rfl (FnC.tri0 Tryz.call16 (c_wBands_ok (x.take 40) _ _ eps hb)) (by repeat constructor) ?_
 rintro _ _ ⟨ba, bc, rfl, rfl⟩
 have hbl := bnds_ok hbm
 obtain ⟨z, hz⟩ : ∃ z, ((x.take 40).map (bandP eps))[0]? = some z := ⟨_, List.getElem?_eq_getElem (by have := (bandsM_len hbm).1; omega)⟩
 have hzo := hbl z (List.mem_of_getElem? hz)
 unfold BndOk at hzo
 refine Oy rfl (Yl.move rfl) ?_
 refine Oy rfl (Yl.extract rfl (by repeat constructor)) ?_
 refine Oy rfl (Yl.extract rfl (by repeat constructor)) ?_
 refine Oy rfl (Yl.assign rfl) ?_
 refine Oy rfl (Yl.assign rfl) ?_
 refine OW.nil ?_
 refine Wr ?_
 refine Oy rfl (Yl.move rfl) ?_
 refine Oy rfl (Yl.move rfl) ?_
 refine OW.call (Wn.plain rfl) rfl rfl rfl (FnC.tri0 Tryz.call11 (c_wWay_ok (x.take 40) _ _ eps 3 hb (by decide))) (by repeat constructor) ?_
 rintro _ _ ⟨ys, ya, yc, hys, rfl, rfl⟩
 have h3 : madeW 3 (x.take 40) eps = madeW3 (x.take 40) eps := by simp [madeW]
 have hyl : ys.length = (madeW3 (x.take 40) eps).length := by rw [← h3, ← hys, List.length_map]
 have hyw := made3_any (l := (x.take 40)) (eps := eps) (by have := pts_len hp; omega)
 clear hys
 refine Oy rfl (Yl.move rfl) ?_
 refine Oy rfl (Yl.extract rfl (by repeat constructor)) ?_
 refine Oy rfl (Yl.extract rfl (by repeat constructor)) ?_
 refine Oy rfl (Yl.assign rfl) ?_
 refine Oy rfl (Yl.assign rfl) ?_
 refine OW.nil ?_
 refine W.seq ?_
 refine Wr ?_
 refine Oy rfl (Yl.move rfl) ?_
 refine Oy rfl (Yl.neq rfl rfl) ?_
 refine Oy rfl (Yl.move rfl) ?_
 refine OW.yl (Wn.run rfl rfl rfl (by first | decide | rfl)) rfl (Yl.move rfl) ?_
 refine OW.yl (Wn.run rfl rfl rfl (by first | decide | rfl)) rfl (Yl.neq rfl rfl) ?_
 refine Oy rfl (Yl.pick_false rfl (by first | decide | rfl) rfl) ?_
 refine OW.nil ?_
 refine W.cond_f1 rfl (by first | decide | rfl) ?_
 refine W.skip ?_
 refine W.seq ?_
 refine Wr ?_
 refine Oy rfl (Yl.move rfl) ?_
 refine Oy rfl (Yl.len ⟨Tryz.underlying38, Tryz.sizeOf42⟩ rfl) ?_
 refine Oy rfl (Yl.move rfl) ?_
 refine OW.nil ?_
 refine W.block ?_
 refine W.loopS (X := (Nat)) (fun (i : (Nat)) => (i ≤ ((x.take 40).map (bandP eps)).length ∧ (∀ q ∈ ((x.take 40).map (bandP eps)).take i, withinM cl (q.T - z.T) q.Lo q.Hi = true) : Prop)) (fun (i : (Nat)) => ([(41, .int .i64 (i : Int))] : Env)) (fun (i : (Nat)) => ([] : List Res)) (fun (i : (Nat)) => (((x.take 40).map (bandP eps)).length - i : Nat)) 0 [(5, _), (7, _), (8, _), (10, _), (39, _), (40, _)] (by exact ⟨Nat.zero_le _, fun q hq => by simp at hq⟩) (Le.cons rfl (Le.cons rfl (Le.cons rfl (Le.cons rfl (Le.cons rfl (Le.cons rfl (Le.cons rfl (Le.nil _)))))))) (by repeat constructor) ?_
 rintro i ⟨hi, hinv⟩
 show W _ _ _ _ _ _ ([(41, .int .i64 (i : Int))] ++ _) _ ([] ++ _)
 refine Wr ?_
 refine Oy rfl (Yl.lss rfl rfl) ?_
 refine OW.nil ?_
 refine W.seq ?_
 refine W.cond rfl (fun hq1 => ?_) (fun hq1 => ?_)
 ·have hq1d := of_decide_eq_true hq1
  obtain ⟨y, hy, hdr⟩ := drop_at (l := ((x.take 40).map (bandP eps))) (i := i) (by omega)
  have hyo := hbl y (List.mem_of_getElem? hy)
  unfold BndOk at hyo
  refine W.skip ?_
  refine W.seq ?_
  refine W.block ?_
  refine Wr ?_
  refine OW.fact (Sl.isSome (a := ba) (by repeat constructor) (by omega)) ?_
  rintro ⟨p1, hp1⟩; try dsimp only at hp1
  subst hp1
  refine Oy rfl (Yl.indexS i ⟨Tryz.underlying38, Tryz.sizeOf42⟩ rfl rfl rfl (by omega)) ?_
  refine Oy rfl (Yl.loadE ⟨Tryz.isAgg42, Tryz.sizeOf42⟩ rfl (by repeat constructor) (map_at hy)) ?_
  refine OW.alloc (Wn.plain rfl) rfl Tryz.zeroValue42 (by constructor) (fun b2 => ?_)
  refine OW.store (Wn.plain rfl) Tryz.sizeOf42 rfl rfl (by constructor) (by repeat constructor) rfl (by repeat constructor) (by repeat constructor) ?_
  refine OW.nil ?_
  refine W.seq ?_
  refine W.draw mixed ?_
  refine Al (i := 0) rfl (Wn.plain rfl) rfl (by repeat constructor) (Yl.load ⟨Tryz.isAgg37, Tryz.sizeOf37⟩ rfl .head (by repeat constructor)) ?_
  refine Aq (i := 1) rfl (Wn.plain rfl) rfl (fun _ => Yl.fieldL 0 (fa_42_0) rfl rfl) ?_
  refine Al (i := 2) rfl (Wn.plain rfl) rfl (by repeat constructor) (Yl.load1 Tryz.isAgg2 rfl .head (by repeat constructor)) ?_
  refine Aq (i := 3) rfl (Wn.plain rfl) rfl (fun _ => Yl.move rfl) ?_
  refine Aq (i := 4) rfl (Wn.plain rfl) rfl (fun _ => Yl.indexS 0 ⟨Tryz.underlying38, Tryz.sizeOf42⟩ rfl rfl rfl (by have := (bandsM_len hbm).1; omega)) ?_
  refine Aq (i := 5) rfl (Wn.plain rfl) rfl (fun _ => Yl.fieldA (fa_42_0) rfl) ?_
  refine Al (i := 6) rfl (Wn.plain rfl) rfl (by repeat constructor) (Yl.loadS Tryz.isAgg2 rfl .head (map_at hz) (by repeat constructor)) ?_
  refine Aq (i := 7) rfl (Wn.plain rfl) rfl (fun _ => Yl.sub rfl rfl (by omega)) ?_
  refine Aq (i := 8) rfl (Wn.plain rfl) rfl (fun _ => Yl.fieldL 1 (fa_42_1) rfl rfl) ?_
  refine Al (i := 9) rfl (Wn.plain rfl) rfl (by repeat constructor) (Yl.load1 Tryz.isAgg2 rfl .head (by repeat constructor)) ?_
  refine Aq (i := 10) rfl (Wn.plain rfl) rfl (fun _ => Yl.fieldL 2 (fa_42_2) rfl rfl) ?_
  refine Al (i := 11) rfl (Wn.plain rfl) rfl (by repeat constructor) (Yl.load1 Tryz.isAgg2 rfl .head (by repeat constructor)) ?_
  refine AW.step (i := 12) rfl (by kernel_rfl) (Wn.plain rfl) rfl (Ex.call rfl rfl rfl (FnC.tri0 Tryz.call17 (c_Within _ _ _ _ (by omega) (by omega) (by omega) (by omega))) (by repeat constructor)) (.drop (by kernel_rfl) (.drop (by kernel_rfl) (.keep (by kernel_rfl) (.keep (by kernel_rfl) (.drop (by kernel_rfl) .nil))))) ?_
  rintro _ _ ⟨_, ⟨rfl, rfl⟩, rfl⟩; refine ⟨by repeat constructor, ?_⟩
  refine Aq (i := 13) rfl (Wn.plain rfl) rfl (fun _ => Yl.not rfl) ?_
  refine AW.done (by kernel_rfl) ?_
  refine W.cond rfl (fun hq2 => ?_) (fun hq2 => ?_)
  ·have hq2n := not_t hq2
   refine Wr ?_
   refine Oy rfl (Yl.move rfl) ?_
   refine Oy rfl (Yl.len ⟨Tryz.underlying25, Tryz.sizeOf53⟩ rfl) ?_
   refine Oy rfl (Yl.geq rfl rfl) ?_
   refine Oy rfl (Yl.move rfl) ?_
   refine OW.split (t := 62) rfl (fun hq3 => ?_) (fun hq3 => ?_)
   ·have hq3d := of_decide_eq_true hq3
    refine OW.yl (Wn.run rfl rfl rfl hq3) rfl (Yl.move rfl) ?_
    refine OW.yl (Wn.run rfl rfl rfl hq3) rfl (Yl.len ⟨Tryz.underlying25, Tryz.sizeOf53⟩ rfl) ?_
    refine OW.yl (Wn.run rfl rfl rfl hq3) rfl (Yl.move rfl) ?_
    refine OW.yl (Wn.run rfl rfl rfl hq3) rfl (Yl.len ⟨Tryz.underlying22, Tryz.sizeOf34⟩ rfl) ?_
    refine OW.yl (Wn.run rfl rfl rfl hq3) rfl (Yl.leq rfl rfl) ?_
    refine Oy rfl (Yl.pick_true rfl hq3 rfl) ?_
    refine Oy rfl (Yl.assign rfl) ?_
    refine OW.nil ?_
    refine W.ret ?_
    refine Fin.mk (Rsl.one rfl rfl) ⟨?_, rfl⟩ (by repeat constructor) (by repeat constructor)
    first | rfl | exact boolv (decide_eq_true (by omega)) | exact boolv (t_dec (by omega)) | (simp; omega)
   ·have hq3d := of_decide_eq_false hq3
    exfalso; omega
  ·have hq2n := not_f hq2
   refine W.skip ?_
   refine W.region ?_
   refine Oy rfl (Yl.add rfl rfl (by omega)) ?_
   refine Oy rfl (Yl.move rfl) ?_
   refine OW.nil ?_
   refine ⟨i + 1, _, ⟨by omega, ?_⟩, (Le.cons rfl (Le.cons rfl (Le.cons rfl (Le.cons rfl (Le.cons rfl (Le.cons rfl (Le.cons rfl (Le.nil _)))))))), rfl, by repeat constructor, by repeat constructor, by first | omega | (dsimp only; omega)⟩
   exact within_step hinv hy (by first | assumption | exact not_f (by assumption))
 ·have hq1d := of_decide_eq_false hq1
  have hall := hinv
  rw [take_end (by omega)] at hall
  have h1 : ys.length = 1 := by rw [hyl, made3_len]; exact cut_one (bandsM_len hbm).1 (fit_all hbm hall)
  refine W.exit ?_
  refine Wr ?_
  refine Oy rfl (Yl.move rfl) ?_
  refine Oy rfl (Yl.len ⟨Tryz.underlying25, Tryz.sizeOf53⟩ rfl) ?_
  refine Oy rfl (Yl.eql rfl rfl) ?_
  refine Oy rfl (Yl.assign rfl) ?_
  refine OW.nil ?_
  refine W.ret ?_
  refine Fin.mk (Rsl.one rfl rfl) ⟨?_, rfl⟩ (by repeat constructor) (by repeat constructor)
  first | rfl | exact boolv (decide_eq_true (by omega)) | exact boolv (t_dec (by omega)) | (simp; omega)

/-- WindowLine answers true, whatever comes in. -/
theorem c_WindowLine (x : List Pt) (a : Option Addr) (c : Nat) (eps : Int) (cl : Lin) : FnV Tryz.prog 4 #[.slice a x.length c, .int .i64 eps, .agg (encL cl).toArray] [rowI 2 encT x a c, glob0] (.bool true) := by
 cases hp : pointsM (x.take 40)
 ·exact c_WL_n x a c eps cl hp
 ·cases hq : epsM eps
  ·exact c_WL_e x a c eps cl hp hq
  ·exact c_WL_y x a c eps cl hp hq

end Go.Yb
