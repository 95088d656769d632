/-
  A part of the proof of windowBands_holds: see the text that holds it. No conditions of its own.
-/
import Derived.Test.YtbfhhinhjgdgpaaGreatDoorLaw13b
namespace Go.Yb
open Go Go.Proofs Go.RowKit

theorem bothE_n {l : List Pt} {eps : Int} (h : pointsM l = false) : bothE l eps = 230 := by simp [bothE, h]
theorem bothE_e {l : List Pt} {eps : Int} (h : pointsM l = true) (h2 : epsM eps = false) : bothE l eps = 231 := by simp [bothE, h, h2]
theorem bothE_y {l : List Pt} {eps : Int} (h : pointsM l = true) (h2 : epsM eps = true) : bothE l eps = 0 := by simp [bothE, h, h2]
theorem c_WB_n (x : List Pt) (a : Option Addr) (c : Nat) (eps : Int) (hp : pointsM (x.take 40) = false) : FnV Tryz.prog 5 #[.slice a x.length c, .int .i64 eps] [rowI 2 encT x a c, glob0] (.bool true) := by
 refine FnC.go (m := 65) Tryz.func5 Tryz.ntmps5 rfl (Nat.le_of_ble_eq_true rfl) (fun Lf => ?_)
 have hb : bothE (x.take 40) eps = 230 := bothE_n hp
 refine Wr ?_
 refine Oy rfl (Yl.assign rfl) ?_
 refine OW.nil ?_
 refine W.seq ?_
 refine Wr ?_
 refine OW.callv (Wn.plain rfl) rfl Tryz.call9 rfl (c_wakes13) (by repeat constructor) ?_
 refine Oy rfl (Yl.not rfl) ?_
 refine OW.nil ?_
 refine W.cond_f1 rfl rfl ?_
 refine W.skip ?_
 refine Wr ?_
 refine Oy rfl (Yl.move rfl) ?_
 refine OW.call (Wn.plain rfl) rfl rfl rfl (FnC.tri0 Tryz.call10 (c_own x _ _)) (by repeat constructor) ?_
 rintro _ _ ⟨o0a, o0c, rfl, rfl⟩
 refine Oy rfl (Yl.assign rfl) ?_
 refine OW.nil ?_
 refine Wr ?_
 refine Oy rfl (Yl.move rfl) ?_
 refine OW.callv (Wn.plain rfl) rfl Tryz.call18 rfl ((c_wCheck (x.take 40) _ _).cast (v' := .int .i64 230) (by rw [hp]; rfl)) (by repeat constructor) ?_
 refine Oy rfl (Yl.assign rfl) ?_
 refine OW.nil ?_
 refine W.seq ?_
 refine Wr ?_
 refine Oy rfl (Yl.move rfl) ?_
 refine OW.callv (Wn.plain rfl) rfl Tryz.call19 rfl ((c_refRight (x.take 40) _ _).cast (v' := .bool false) (by rw [hp])) (by repeat constructor) ?_
 refine Oy rfl (Yl.assign rfl) ?_
 refine OW.nil ?_
 refine Wr ?_
 refine Oy rfl (Yl.move rfl) ?_
 refine Oy rfl (Yl.move rfl) ?_
 refine Oy rfl (Yl.eql rfl rfl) ?_
 refine Oy rfl (Yl.neqb Tryz.underlying4 rfl rfl) ?_
 refine Oy rfl (Yl.move rfl) ?_
 refine OW.yl (Wn.run rfl rfl rfl (neb_of rfl (by first | decide | rfl) rfl)) rfl (Yl.move rfl) ?_
 refine OW.yl (Wn.run rfl rfl rfl (neb_of rfl (by first | decide | rfl) rfl)) rfl (Yl.not rfl) ?_
 refine OW.yl (Wn.run rfl rfl rfl (neb_of rfl (by first | decide | rfl) rfl)) rfl (Yl.move rfl) ?_
 refine OW.yl (Wn.run rfl rfl rfl rfl) rfl (Yl.move rfl) ?_
 refine OW.yl (Wn.run rfl rfl rfl rfl) rfl (Yl.neq rfl rfl) ?_
 refine OW.yl (Wn.run rfl rfl rfl (neb_of rfl (by first | decide | rfl) rfl)) rfl (Yl.pick_true rfl rfl rfl) ?_
 refine Oy rfl (Yl.pick_false rfl (neb_of rfl (by first | decide | rfl) rfl) rfl) ?_
 refine OW.nil ?_
 refine W.cond_f1 rfl (by first | decide | rfl) ?_
 refine W.skip ?_
 refine Wr ?_
 refine Oy rfl (Yl.move rfl) ?_
 refine Oy rfl (Yl.move rfl) ?_
 refine OW.call (Wn.plain rfl) rfl rfl rfl (FnC.tri0 Tryz.call16 ((c_wBands_no (x.take 40) _ _ eps (by omega)).mono (R' := fun v L' => v = .tuple [.slice none 0 0, .int .i64 230].toArray ∧ L' = []) (fun v L' h => by rw [hb] at h; exact h))) (by repeat constructor) ?_
 rintro _ _ ⟨rfl, rfl⟩
 refine Oy rfl (Yl.move rfl) ?_
 refine Oy rfl (Yl.extract rfl (by repeat constructor)) ?_
 refine Oy rfl (Yl.extract rfl (by repeat constructor)) ?_
 refine Oy rfl (Yl.assign rfl) ?_
 refine Oy rfl (Yl.assign rfl) ?_
 refine OW.nil ?_
 refine W.seq ?_
 refine Wr ?_
 refine Oy rfl (Yl.move rfl) ?_
 refine Oy rfl (Yl.move rfl) ?_
 refine OW.callv (Wn.plain rfl) rfl Tryz.call12 rfl ((c_why (x.take 40) _ _ eps).cast (v' := .int .i64 230) (by rw [hb])) (by repeat constructor) ?_
 refine Oy rfl (Yl.assign rfl) ?_
 refine OW.nil ?_
 refine Wr ?_
 refine Oy rfl (Yl.move rfl) ?_
 refine Oy rfl (Yl.neq rfl rfl) ?_
 refine OW.nil ?_
 refine W.cond_t1 rfl (by first | decide | rfl) ?_
 refine Wr ?_
 refine Oy rfl (Yl.move rfl) ?_
 refine Oy rfl (Yl.len ⟨Tryz.underlying38, Tryz.sizeOf42⟩ rfl) ?_
 refine Oy rfl (Yl.eql rfl rfl) ?_
 refine Oy rfl (Yl.move rfl) ?_
 refine OW.yl (Wn.run rfl rfl rfl (by first | decide | rfl)) rfl (Yl.move rfl) ?_
 refine OW.yl (Wn.run rfl rfl rfl (by first | decide | rfl)) rfl (Yl.move rfl) ?_
 refine OW.yl (Wn.run rfl rfl rfl (by first | decide | rfl)) rfl (Yl.eql rfl rfl) ?_
 refine Oy rfl (Yl.pick_true rfl (by first | decide | rfl) rfl) ?_
 refine Oy rfl (Yl.assign rfl) ?_
 refine OW.nil ?_
 refine W.ret ?_
 refine Fin.mk (Rsl.one rfl rfl) ⟨?_, rfl⟩ (by repeat constructor) (by repeat constructor)
 rfl
theorem c_WB_e (x : List Pt) (a : Option Addr) (c : Nat) (eps : Int) (hp : pointsM (x.take 40) = true) (hq : epsM eps = false) : FnV Tryz.prog 5 #[.slice a x.length c, .int .i64 eps] [rowI 2 encT x a c, glob0] (.bool true) := by
 refine FnC.go (m := 65) Tryz.func5 Tryz.ntmps5 rfl (Nat.le_of_ble_eq_true rfl) (fun Lf => ?_)
 have hb : bothE (x.take 40) eps = 231 := bothE_e hp hq
 refine Wr ?_
 refine Oy rfl (Yl.assign rfl) ?_
 refine OW.nil ?_
 refine W.seq ?_
 refine Wr ?_
 refine OW.callv (Wn.plain rfl) rfl Tryz.call9 rfl (c_wakes13) (by repeat constructor) ?_
 refine Oy rfl (Yl.not rfl) ?_
 refine OW.nil ?_
 refine W.cond_f1 rfl rfl ?_
 refine W.skip ?_
 refine Wr ?_
 refine Oy rfl (Yl.move rfl) ?_
 refine OW.call (Wn.plain rfl) rfl rfl rfl (FnC.tri0 Tryz.call10 (c_own x _ _)) (by repeat constructor) ?_
 rintro _ _ ⟨o0a, o0c, rfl, rfl⟩
 refine Oy rfl (Yl.assign rfl) ?_
 refine OW.nil ?_
 refine Wr ?_
 refine Oy rfl (Yl.move rfl) ?_
 refine OW.callv (Wn.plain rfl) rfl Tryz.call18 rfl ((c_wCheck (x.take 40) _ _).cast (v' := .int .i64 0) (by rw [hp]; rfl)) (by repeat constructor) ?_
 refine Oy rfl (Yl.assign rfl) ?_
 refine OW.nil ?_
 refine W.seq ?_
 refine Wr ?_
 refine Oy rfl (Yl.move rfl) ?_
 refine OW.callv (Wn.plain rfl) rfl Tryz.call19 rfl ((c_refRight (x.take 40) _ _).cast (v' := .bool true) (by rw [hp])) (by repeat constructor) ?_
 refine Oy rfl (Yl.assign rfl) ?_
 refine OW.nil ?_
 refine Wr ?_
 refine Oy rfl (Yl.move rfl) ?_
 refine Oy rfl (Yl.move rfl) ?_
 refine Oy rfl (Yl.eql rfl rfl) ?_
 refine Oy rfl (Yl.neqb Tryz.underlying4 rfl rfl) ?_
 refine Oy rfl (Yl.move rfl) ?_
 refine OW.yl (Wn.run rfl rfl rfl (neb_of rfl (by first | decide | rfl) rfl)) rfl (Yl.move rfl) ?_
 refine OW.yl (Wn.run rfl rfl rfl (neb_of rfl (by first | decide | rfl) rfl)) rfl (Yl.not rfl) ?_
 refine OW.yl (Wn.run rfl rfl rfl (neb_of rfl (by first | decide | rfl) rfl)) rfl (Yl.move rfl) ?_
 refine OW.not (Wn.not rfl rfl rfl rfl) rfl ?_
 refine OW.not (Wn.not rfl rfl rfl rfl) rfl ?_
 refine OW.yl (Wn.run rfl rfl rfl (neb_of rfl (by first | decide | rfl) rfl)) rfl (Yl.pick_false rfl rfl rfl) ?_
 refine Oy rfl (Yl.pick_false rfl (neb_of rfl (by first | decide | rfl) rfl) rfl) ?_
 refine OW.nil ?_
 refine W.cond_false rfl ?_
 refine W.skip ?_
 refine Wr ?_
 refine Oy rfl (Yl.move rfl) ?_
 refine Oy rfl (Yl.move rfl) ?_
 refine OW.call (Wn.plain rfl) rfl rfl rfl (FnC.tri0 Tryz.call16 ((c_wBands_no (x.take 40) _ _ eps (by omega)).mono (R' := fun v L' => v = .tuple [.slice none 0 0, .int .i64 231].toArray ∧ L' = []) (fun v L' h => by rw [hb] at h; exact h))) (by repeat constructor) ?_
 rintro _ _ ⟨rfl, rfl⟩
 refine Oy rfl (Yl.move rfl) ?_
 refine Oy rfl (Yl.extract rfl (by repeat constructor)) ?_
 refine Oy rfl (Yl.extract rfl (by repeat constructor)) ?_
 refine Oy rfl (Yl.assign rfl) ?_
 refine Oy rfl (Yl.assign rfl) ?_
 refine OW.nil ?_
 refine W.seq ?_
 refine Wr ?_
 refine Oy rfl (Yl.move rfl) ?_
 refine Oy rfl (Yl.move rfl) ?_
 refine OW.callv (Wn.plain rfl) rfl Tryz.call12 rfl ((c_why (x.take 40) _ _ eps).cast (v' := .int .i64 231) (by rw [hb])) (by repeat constructor) ?_
 refine Oy rfl (Yl.assign rfl) ?_
 refine OW.nil ?_
 refine Wr ?_
 refine Oy rfl (Yl.move rfl) ?_
 refine Oy rfl (Yl.neq rfl rfl) ?_
 refine OW.nil ?_
 refine W.cond_t1 rfl (by first | decide | rfl) ?_
 refine Wr ?_
 refine Oy rfl (Yl.move rfl) ?_
 refine Oy rfl (Yl.len ⟨Tryz.underlying38, Tryz.sizeOf42⟩ rfl) ?_
 refine Oy rfl (Yl.eql rfl rfl) ?_
 refine Oy rfl (Yl.move rfl) ?_
 refine OW.yl (Wn.run rfl rfl rfl (by first | decide | rfl)) rfl (Yl.move rfl) ?_
 refine OW.yl (Wn.run rfl rfl rfl (by first | decide | rfl)) rfl (Yl.move rfl) ?_
 refine OW.yl (Wn.run rfl rfl rfl (by first | decide | rfl)) rfl (Yl.eql rfl rfl) ?_
 refine Oy rfl (Yl.pick_true rfl (by first | decide | rfl) rfl) ?_
 refine Oy rfl (Yl.assign rfl) ?_
 refine OW.nil ?_
 refine W.ret ?_
 refine Fin.mk (Rsl.one rfl rfl) ⟨?_, rfl⟩ (by repeat constructor) (by repeat constructor)
 rfl
theorem c_WB_y (x : List Pt) (a : Option Addr) (c : Nat) (eps : Int) (hp : pointsM (x.take 40) = true) (hq : epsM eps = true) : FnV Tryz.prog 5 #[.slice a x.length c, .int .i64 eps] [rowI 2 encT x a c, glob0] (.bool true) := by
 refine FnC.go (m := 65) Tryz.func5 Tryz.ntmps5 rfl (Nat.le_of_ble_eq_true rfl) (fun Lf => ?_)
 have hb : bothE (x.take 40) eps = 0 := bothE_y hp hq
 have he := (bothE_0 hb).2
 refine Wr ?_
 refine Oy rfl (Yl.assign rfl) ?_
 refine OW.nil ?_
 refine W.seq ?_
 refine Wr ?_
 refine OW.callv (Wn.plain rfl) rfl Tryz.call9 rfl (c_wakes13) (by repeat constructor) ?_
 refine Oy rfl (Yl.not rfl) ?_
 refine OW.nil ?_
 refine W.cond_f1 rfl rfl ?_
 refine W.skip ?_
 refine Wr ?_
 refine Oy rfl (Yl.move rfl) ?_
 refine OW.call (Wn.plain rfl) rfl rfl rfl (FnC.tri0 Tryz.call10 (c_own x _ _)) (by repeat constructor) ?_
 rintro _ _ ⟨o0a, o0c, rfl, rfl⟩
 refine Oy rfl (Yl.assign rfl) ?_
 refine OW.nil ?_
 refine Wr ?_
 refine Oy rfl (Yl.move rfl) ?_
 refine OW.callv (Wn.plain rfl) rfl Tryz.call18 rfl ((c_wCheck (x.take 40) _ _).cast (v' := .int .i64 0) (by rw [hp]; rfl)) (by repeat constructor) ?_
 refine Oy rfl (Yl.assign rfl) ?_
 refine OW.nil ?_
 refine W.seq ?_
 refine Wr ?_
 refine Oy rfl (Yl.move rfl) ?_
 refine OW.callv (Wn.plain rfl) rfl Tryz.call19 rfl ((c_refRight (x.take 40) _ _).cast (v' := .bool true) (by rw [hp])) (by repeat constructor) ?_
 refine Oy rfl (Yl.assign rfl) ?_
 refine OW.nil ?_
 refine Wr ?_
 refine Oy rfl (Yl.move rfl) ?_
 refine Oy rfl (Yl.move rfl) ?_
 refine Oy rfl (Yl.eql rfl rfl) ?_
 refine Oy rfl (Yl.neqb Tryz.underlying4 rfl rfl) ?_
 refine Oy rfl (Yl.move rfl) ?_
 refine OW.yl (Wn.run rfl rfl rfl (neb_of rfl (by first | decide | rfl) rfl)) rfl (Yl.move rfl) ?_
 refine OW.yl (Wn.run rfl rfl rfl (neb_of rfl (by first | decide | rfl) rfl)) rfl (Yl.not rfl) ?_
 refine OW.yl (Wn.run rfl rfl rfl (neb_of rfl (by first | decide | rfl) rfl)) rfl (Yl.move rfl) ?_
 refine OW.not (Wn.not rfl rfl rfl rfl) rfl ?_
 refine OW.not (Wn.not rfl rfl rfl rfl) rfl ?_
 refine OW.yl (Wn.run rfl rfl rfl (neb_of rfl (by first | decide | rfl) rfl)) rfl (Yl.pick_false rfl rfl rfl) ?_
 refine Oy rfl (Yl.pick_false rfl (neb_of rfl (by first | decide | rfl) rfl) rfl) ?_
 refine OW.nil ?_
 refine W.cond_false rfl ?_
 refine W.skip ?_
 refine Wr ?_
 refine Oy rfl (Yl.move rfl) ?_
 refine Oy rfl (Yl.move rfl) ?_
 refine OW.call (Wn.plain rfl) rfl rfl rfl (FnC.tri0 Tryz.call16 (c_wBands_ok (x.take 40) _ _ eps hb)) (by repeat constructor) ?_
 rintro _ _ ⟨ba, bc, rfl, rfl⟩
 refine Oy rfl (Yl.move rfl) ?_
 refine Oy rfl (Yl.extract rfl (by repeat constructor)) ?_
 refine Oy rfl (Yl.extract rfl (by repeat constructor)) ?_
 refine Oy rfl (Yl.assign rfl) ?_
 refine Oy rfl (Yl.assign rfl) ?_
 refine OW.nil ?_
 refine W.seq ?_
 refine Wr ?_
 refine Oy rfl (Yl.move rfl) ?_
 refine Oy rfl (Yl.move rfl) ?_
 refine OW.callv (Wn.plain rfl) rfl Tryz.call12 rfl ((c_why (x.take 40) _ _ eps).cast (v' := .int .i64 0) (by rw [hb])) (by repeat constructor) ?_
 refine Oy rfl (Yl.assign rfl) ?_
 refine OW.nil ?_
 refine Wr ?_
 refine Oy rfl (Yl.move rfl) ?_
 refine Oy rfl (Yl.neq rfl rfl) ?_
 refine OW.nil ?_
 refine W.cond_f1 rfl (by first | decide | rfl) ?_
 refine W.skip ?_
 refine Wr ?_
 refine Oy rfl (Yl.move rfl) ?_
 refine Oy rfl (Yl.eql rfl rfl) ?_
 refine Oy rfl (Yl.move rfl) ?_
 refine OW.yl (Wn.run rfl rfl rfl (by first | decide | rfl)) rfl (Yl.move rfl) ?_
 refine OW.yl (Wn.run rfl rfl rfl (by first | decide | rfl)) rfl (Yl.move rfl) ?_
 refine OW.yl (Wn.run rfl rfl rfl (by first | decide | rfl)) rfl (Yl.move rfl) ?_
 refine OW.call (Wn.run rfl rfl rfl (by first | decide | rfl)) rfl rfl rfl (FnC.tri0 Tryz.call21 (c_refBands (x.take 40) _ _ eps (by simp; omega) (pts_ok hp) he)) (by repeat constructor) ?_
 rintro _ _ ⟨ba2, bc2, rfl, rfl⟩
 refine OW.callv (Wn.run rfl rfl rfl (by first | decide | rfl)) rfl Tryz.call20 rfl ((c_eqBds ((x.take 40).map (bandP eps)) ((x.take 40).map (bandP eps)) ba bc ba2 bc2).cast (v' := .bool true) (by simp)) (by repeat constructor) ?_
 refine Oy rfl (Yl.pick_true rfl (by first | decide | rfl) rfl) ?_
 refine Oy rfl (Yl.move rfl) ?_
 refine OW.yl (Wn.run rfl rfl rfl rfl) rfl (Yl.move rfl) ?_
 refine OW.yl (Wn.run rfl rfl rfl rfl) rfl (Yl.move rfl) ?_
 refine OW.call (Wn.run rfl rfl rfl rfl) rfl rfl rfl (FnC.tri0 Tryz.call10 (c_own x _ _)) (by repeat constructor) ?_
 rintro _ _ ⟨o1a, o1c, rfl, rfl⟩
 refine OW.callv (Wn.run rfl rfl rfl rfl) rfl Tryz.call15 rfl ((c_eqPts (x.take 40) (x.take 40) o0a o0c o1a o1c).cast (v' := .bool true) (by simp)) (by repeat constructor) ?_
 refine Oy rfl (Yl.pick_true rfl rfl rfl) ?_
 refine Oy rfl (Yl.assign rfl) ?_
 refine OW.nil ?_
 refine W.ret ?_
 refine Fin.mk (Rsl.one rfl rfl) ⟨?_, rfl⟩ (by repeat constructor) (by repeat constructor)
 rfl

/-- WindowBands answers true, whatever comes in. -/
theorem c_WindowBands (x : List Pt) (a : Option Addr) (c : Nat) (eps : Int) : FnV Tryz.prog 5 #[.slice a x.length c, .int .i64 eps] [rowI 2 encT x a c, glob0] (.bool true) := by
 cases hp : pointsM (x.take 40)
 ·exact c_WB_n x a c eps hp
 ·cases hq : epsM eps
  ·exact c_WB_e x a c eps hp hq
  ·exact c_WB_y x a c eps hp hq

end Go.Yb
