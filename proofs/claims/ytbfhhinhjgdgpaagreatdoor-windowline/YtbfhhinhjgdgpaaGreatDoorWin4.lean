/-
  A part of the proof of windowLine_holds: see the text that holds it. No conditions of its own.
-/
import Derived.Test.YtbfhhinhjgdgpaaGreatDoorWin3
namespace Go.Yb
open Go Go.Proofs Go.RowKit

def ofW1 (eps : Int) : List Pt → Sg := fun p => ofL (flatL (p.map (bandP eps))) p
def cutW1 (l : List Pt) (eps : Int) : List Nat := lens (cutM (l.map (bandP eps)))
def madeW1 (l : List Pt) (eps : Int) : List Sg := (partsM l (cutW1 l eps)).map (ofW1 eps)
def ofW2 (eps : Int) : List Pt → Sg := fun p => ofL (sfitL (p.map (bandP eps))) p
def cutW2 (l : List Pt) (eps : Int) : List Nat := lens (cutS (l.map (bandP eps)))
def madeW2 (l : List Pt) (eps : Int) : List Sg := (partsM l (cutW2 l eps)).map (ofW2 eps)
def ofW3 (eps : Int) : List Pt → Sg := fun p => ofL (lFitL (p.map (bandP eps))) p
def cutW3 (l : List Pt) (eps : Int) : List Nat := lens (cutL (l.map (bandP eps)))
def madeW3 (l : List Pt) (eps : Int) : List Sg := (partsM l (cutW3 l eps)).map (ofW3 eps)
def ofW4 (eps : Int) : List Pt → Sg := fun p => ofR p
def cutW4 (l : List Pt) (eps : Int) : List Nat := [(l.map (bandP eps)).length]
def madeW4 (l : List Pt) (eps : Int) : List Sg := (partsM l (cutW4 l eps)).map (ofW4 eps)
theorem cutW1_ok (l : List Pt) (eps : Int) : CutOk (cutW1 l eps) l.length := by have := cutM_ok (l.map (bandP eps)); rwa [List.length_map] at this
theorem cutW2_ok (l : List Pt) (eps : Int) : CutOk (cutW2 l eps) l.length := by have := cutS_ok (l.map (bandP eps)); rwa [List.length_map] at this
theorem cutW3_ok (l : List Pt) (eps : Int) : CutOk (cutW3 l eps) l.length := by have := cutL_ok (l.map (bandP eps)); rwa [List.length_map] at this
theorem cutW4_ok {l : List Pt} (eps : Int) (h : 1 ≤ l.length) : CutOk (cutW4 l eps) l.length := ⟨fun m hm => by simp [cutW4] at hm; omega, by simp [cutW4, sumN]⟩
theorem c_made1 (l : List Pt) (a : Option Addr) (c : Nat) (eps : Int) (hp : pointsM l = true) (he : 0 ≤ eps ∧ eps ≤ 1099511627776) : FnC Tryz.prog 38 #[.slice a l.length c, .int .i64 eps, .int .i64 1] [rowI 2 encT l a c] (RetSegs (madeW1 l eps)) := by
 refine FnC.go (m := 54) Tryz.func38 Tryz.ntmps38 rfl (Nat.le_of_ble_eq_true rfl) (fun Lf => ?_)
 have hl := pts_len hp
 have hok := pts_ok hp
 have hbm := bands_of hp he
 have hcs : CutOk (cutW1 l eps) l.length := cutW1_ok l eps
 have hcl := cutOk_len hcs
 refine Wr ?_
 refine Oy rfl (Yl.assign rfl) ?_
 refine OW.nil ?_
 refine Wr ?_
 refine Oy rfl (Yl.move rfl) ?_
 refine Oy rfl (Yl.len ⟨Tryz.underlying22, Tryz.sizeOf34⟩ rfl) ?_
 refine OW.makeN (l.length) (l.length) (Wn.plain rfl) rfl rw_22 rfl rfl rfl rfl (by first | omega | (unfold maxLen; omega)) (by first | omega | (unfold maxLen; omega)) (by first | omega | (unfold maxLen; omega)) (fun b1 xs1 => ?_)
 refine Oy rfl (Yl.assign rfl) ?_
 refine OW.nil ?_
 refine Wr ?_
 refine Oy rfl (Yl.move rfl) ?_
 refine Oy rfl (Yl.move rfl) ?_
 refine OW.copyR (f := encT) (l) (Wn.plain rfl) rfl rw_22 rfl rfl (by repeat constructor) rfl (Src.sl (sz := 2) (xs := l.map encT) (by decide) (by repeat constructor)) (fun _ => rfl) (fun _ => by repeat constructor) ?_
 refine OW.ent (Ent.sealP (f := encT) (E := 34) (sz := 2) (by repeat constructor) (fun _ => rfl)) ?_
 refine OW.nil ?_
 refine Wr ?_
 refine OW.callv (Wn.plain rfl) rfl Tryz.call74 rfl (c_ways) (by repeat constructor) ?_
 refine Oy rfl (Yl.move rfl) ?_
 refine Oy rfl (Yl.indexG 1 2 ⟨Tryz.underlying124, Tryz.sizeOf123⟩ ⟨Tryz.isAgg123, Tryz.sizeOf123⟩ rfl rfl rfl (by decide) rfl (by repeat constructor) (by decide)) ?_
 refine OW.alloc (Wn.plain rfl) rfl Tryz.zeroValue123 (by constructor) (fun b2 => ?_)
 refine OW.store (Wn.plain rfl) Tryz.sizeOf123 rfl rfl (by constructor) (by repeat constructor) rfl (by repeat constructor) (by repeat constructor) ?_
 refine OW.nil ?_
 refine Wr ?_
 refine Oy rfl (Yl.move rfl) ?_
 refine Oy rfl (Yl.build (is := [0]) (xs := [.tmp 24]) st_127 rfl rfl (by repeat constructor)) ?_
 refine Oy rfl (Yl.move rfl) ?_
 refine Oy rfl (Yl.fieldL 1 (fa_123_1) rfl rfl) ?_
 refine Oy rfl (Yl.load1 Tryz.isAgg121 rfl (by repeat constructor) (by repeat constructor)) ?_
 refine Oy rfl (Yl.build (is := [0, 1, 2]) (xs := [.tmp 25, .tmp 26, .tmp 28]) st_129 rfl rfl (by repeat constructor)) ?_
 refine OW.alloc (Wn.plain rfl) rfl Tryz.zeroValue129 (by constructor) (fun b3 => ?_)
 refine OW.store (Wn.plain rfl) Tryz.sizeOf129 rfl rfl (by constructor) (by repeat constructor) rfl (by repeat constructor) (by repeat constructor) ?_
 refine OW.nil ?_
 refine W.seq ?_
 refine W.draw mixed ?_
 refine Aq (i := 0) rfl (Wn.plain rfl) rfl (fun _ => Yl.fieldL 0 (fa_123_0) rfl rfl) ?_
 refine Al (i := 1) rfl (Wn.plain rfl) rfl (by repeat constructor) (Yl.load1 Tryz.isAgg120 rfl .head (by repeat constructor)) ?_
 refine Aq (i := 2) rfl (Wn.plain rfl) rfl (fun _ => Yl.fieldL 0 (fa_129_0) rfl rfl) ?_
 refine Aq (i := 3) rfl (Wn.plain rfl) rfl (fun _ => Yl.fieldL 0 (fa_127_0) rfl rfl) ?_
 refine Al (i := 4) rfl (Wn.plain rfl) rfl (by repeat constructor) (Yl.load1 Tryz.isAgg22 rfl .head (by repeat constructor)) ?_
 refine Aq (i := 5) rfl (Wn.plain rfl) rfl (fun _ => Yl.move rfl) ?_
 refine AW.step (i := 6) rfl (by kernel_rfl) (Wn.plain rfl) rfl (Ex.call rfl rfl rfl (FnC.tri0 Tryz.call45 (c_wbands l _ _ eps (by omega) hok he)) (by repeat constructor)) (.drop (by kernel_rfl) (.keep (by kernel_rfl) .nil)) ?_
 rintro _ _ ⟨_, ⟨ba, bc, rfl, rfl⟩, rfl⟩; refine ⟨by repeat constructor, ?_⟩
 refine AW.step (i := 7) rfl (by kernel_rfl) (Wn.plain rfl) rfl (Ex.call rfl rfl rfl (FnC.triC Tryz.call115 (c_pCut _ _ _ hbm)) (by repeat constructor)) (.drop (by kernel_rfl) .nil) ?_
 rintro _ _ ⟨_, ⟨ca, cc, rfl, rfl⟩, rfl⟩; refine ⟨by repeat constructor, ?_⟩
 refine Aq (i := 8) rfl (Wn.plain rfl) rfl (fun _ => Yl.move rfl) ?_
 refine Aq (i := 9) rfl (Wn.plain rfl) rfl (fun _ => Yl.extract rfl (by repeat constructor)) ?_
 refine Aq (i := 10) rfl (Wn.plain rfl) rfl (fun _ => Yl.extract rfl (by repeat constructor)) ?_
 refine Aq (i := 11) rfl (Wn.plain rfl) rfl (fun _ => Yl.assign rfl) ?_
 refine Aq (i := 12) rfl (Wn.plain rfl) rfl (fun _ => Yl.assign rfl) ?_
 refine AW.done (by kernel_rfl) ?_
 refine Wr ?_
 refine Oy rfl (Yl.load ⟨Tryz.isAgg129, Tryz.sizeOf129⟩ rfl (by repeat constructor) (by repeat constructor)) ?_
 refine Oy rfl (Yl.makeFunc rfl rfl) ?_
 refine OW.alloc (Wn.plain rfl) rfl Tryz.zeroValue76 (by constructor) (fun b4 => ?_)
 refine OW.store (Wn.plain rfl) Tryz.sizeOf76 rfl rfl (by constructor) (by repeat constructor) rfl (by repeat constructor) (by repeat constructor) ?_
 refine OW.nil ?_
 refine Wr ?_
 refine OW.alloc (Wn.plain rfl) rfl Tryz.zeroValue25 (by constructor) (fun b5 => ?_)
 refine OW.nil ?_
 refine W.seq ?_
 refine Wr ?_
 refine Oy rfl (Yl.load ⟨Tryz.isAgg129, Tryz.sizeOf129⟩ rfl (by repeat constructor) (by repeat constructor)) ?_
 refine Oy rfl (Yl.move rfl) ?_
 refine OW.call (Wn.plain rfl) rfl rfl rfl (FnC.tri0 Tryz.call76 (c_wparts _ _ _ eps _ _ _ _ (by repeat constructor))) (by repeat constructor) ?_
 rintro _ _ ⟨bc, bm, rfl, rfl⟩
 refine OW.nil ?_
 refine W.block ?_
 refine W.ent (Ent.new_arr 53 8) ?_
 refine W.ent Ent.segs_nil ?_
 refine W.rangeF (S := (List SgV) × (Option Addr) × (Nat)) (fun (k : Nat) (x : (List SgV) × (Option Addr) × (Nat)) => match x with | (ys, oa, oc) => (ys.map Prod.fst = ((partsM l (cutW1 l eps)).take k).map (ofW1 eps) : Prop)) (fun  (x : (List SgV) × (Option Addr) × (Nat)) => match x with | (ys, oa, oc) => ([.cell b5 [.slice oa ys.length oc] 25, rowR 53 8 encV ys oa oc, .imm (segsI ys), .cell b4 [.func (.func 75) #[.agg #[.slice (some ⟨b1, 0, none⟩) l.length l.length, .int .i64 eps, .func (.func 116) #[] #[]]] #[]] 76] : List Res)) (fun (ex : Exit) (x : (List SgV) × (Option Addr) × (Nat)) => match x with | (ys, oa, oc) => (False : Prop)) (fun  (x : (List SgV) × (Option Addr) × (Nat)) => match x with | (ys, oa, oc) => ([.cell b5 [.slice oa ys.length oc] 25, rowR 53 8 encV ys oa oc, .imm (segsI ys), .cell b4 [.func (.func 75) #[.agg #[.slice (some ⟨b1, 0, none⟩) l.length l.length, .int .i64 eps, .func (.func 116) #[] #[]]] #[]] 76] : List Res)) ([], none, 0) rfl Tryz.call127 (i_wparts l (some ⟨b1, 0, none⟩) l.length eps (.func (.func 116) #[] #[]) (cutW1 l eps) _ _ bc bm (by omega) hcs) (by repeat constructor) (by rfl) rfl (by rintro _ _ _ ⟨_, _, rfl, _⟩; rfl) ?_ ?_ ?_
 ·rintro lp k p ⟨ys, oa, oc⟩ vs Lx hx ⟨pa, pc, rfl, rfl⟩ hI Lf
  show W _ _ _ _ _ _ _ [] ([rowI 2 encT p pa pc] ++ [.cell b5 [.slice oa ys.length oc] 25, rowR 53 8 encV ys oa oc, .imm (segsI ys), .cell b4 [.func (.func 75) #[.agg #[.slice (some ⟨b1, 0, none⟩) l.length l.length, .int .i64 eps, .func (.func 116) #[] #[]]] #[]] 76] ++ Lf)
  have hpp := part_pts hp hcs hx
  have hyl : ys.length ≤ 4000 := by have h1 := congrArg List.length hI; simp at h1; have h2 := partsM_len (cutW1 l eps) l; omega
  refine W.region ?_
  refine Oy rfl (Yl.assign rfl) ?_
  refine OW.nil ?_
  refine ⟨rfl, _, by repeat constructor, fun Lf => ?_⟩
  refine W.block ?_
  refine W.draw mixed ?_
  refine Al (i := 0) rfl (Wn.plain rfl) rfl (by repeat constructor) (Yl.load1 Tryz.isAgg25 rfl .head (by repeat constructor)) ?_
  refine Al (i := 1) rfl (Wn.plain rfl) rfl (by repeat constructor) (Yl.load1 Tryz.isAgg76 rfl .head (by repeat constructor)) ?_
  refine Aq (i := 2) rfl (Wn.plain rfl) rfl (fun _ => Yl.move rfl) ?_
  refine AW.step (i := 3) rfl (by kernel_rfl) (Wn.plain rfl) rfl (Ex.call rfl rfl rfl (FnC.triC Tryz.call75 (c_wofL1 p pa pc eps (some ⟨b1, 0, none⟩) l.length l.length hpp he)) (by repeat constructor)) (.drop (by kernel_rfl) (.keep (by kernel_rfl) .nil)) ?_
  rintro _ _ ⟨_, ⟨xb, rfl, rfl⟩, rfl⟩; refine ⟨by repeat constructor, ?_⟩
  refine AW.ent (Ent.segs_push (ys := ys) (s := ofW1 eps p) (xb := xb) (by repeat constructor) (by repeat constructor) (by repeat constructor)) ?_
  refine AW.step (i := 4) rfl (by kernel_rfl) (Wn.plain rfl) rfl (Ex.lit (is := [0]) (xs := [.tmp 50]) rw_25 rfl rfl rfl (by decide) (by repeat constructor)) (.keep (by kernel_rfl) .nil) ?_
  rintro _ _ ⟨b6, rfl, rfl⟩; refine ⟨by repeat constructor, ?_⟩
  refine AW.step (i := 5) rfl (by kernel_rfl) (Wn.plain rfl) rfl (Ex.push (f := encV) (y := (ofW1 eps p, xb)) rw_25 rfl rfl (by repeat constructor) ⟨_, by repeat constructor⟩ (by rfl) (by rfl) (by repeat constructor) (by omega) (by omega)) (.drop (by kernel_rfl) .nil) ?_
  rintro _ _ ⟨a2, c2, rfl, rfl⟩; refine ⟨by repeat constructor, ?_⟩
  refine AW.step (i := 6) rfl (by kernel_rfl) (Wn.plain rfl) rfl (Ex.store Tryz.sizeOf25 rfl rfl (by constructor) (by repeat constructor) rfl (by repeat constructor) (by repeat constructor)) .nil ?_
  rintro _ _ rfl; refine ⟨by repeat constructor, ?_⟩
  refine AW.done (by kernel_rfl) ?_
  refine ⟨(ys ++ [(ofW1 eps p, xb)], _, _), ?_, EntL (by repeat constructor) (by repeat constructor)⟩
  rw [take_at hx]; simp [hI]
 ·rintro D1 ⟨ys, oa, oc⟩ hI
  rw [List.take_length] at hI
  refine Wr ?_
  refine Oy rfl (Yl.load1 Tryz.isAgg25 rfl (by repeat constructor) (by repeat constructor)) ?_
  refine Oy rfl (Yl.assign rfl) ?_
  refine OW.nil ?_
  refine W.ret ?_
  refine Fin.marks [D1] rfl (by repeat constructor) ?_
  refine Fin.ent (Ent.sealP (f := encV) (E := 53) (sz := 8) (by repeat constructor) (fun _ => rfl)) ?_
  exact Fin.mk (Rsl.one rfl rfl) ⟨_, _, _, hI, rfl, rfl⟩ (by repeat constructor) (by repeat constructor)
 ·rintro _ _ _ h; exact h.elim
theorem c_made2 (l : List Pt) (a : Option Addr) (c : Nat) (eps : Int) (hp : pointsM l = true) (he : 0 ≤ eps ∧ eps ≤ 1099511627776) : FnC Tryz.prog 38 #[.slice a l.length c, .int .i64 eps, .int .i64 2] [rowI 2 encT l a c] (RetSegs (madeW2 l eps)) := by
 refine FnC.go (m := 54) Tryz.func38 Tryz.ntmps38 rfl (Nat.le_of_ble_eq_true rfl) (fun Lf => ?_)
 have hl := pts_len hp
 have hok := pts_ok hp
 have hbm := bands_of hp he
 have hcs : CutOk (cutW2 l eps) l.length := cutW2_ok l eps
 have hcl := cutOk_len hcs
 refine Wr ?_
 refine Oy rfl (Yl.assign rfl) ?_
 refine OW.nil ?_
 refine Wr ?_
 refine Oy rfl (Yl.move rfl) ?_
 refine Oy rfl (Yl.len ⟨Tryz.underlying22, Tryz.sizeOf34⟩ rfl) ?_
 refine OW.makeN (l.length) (l.length) (Wn.plain rfl) rfl rw_22 rfl rfl rfl rfl (by first | omega | (unfold maxLen; omega)) (by first | omega | (unfold maxLen; omega)) (by first | omega | (unfold maxLen; omega)) (fun b1 xs1 => ?_)
 refine Oy rfl (Yl.assign rfl) ?_
 refine OW.nil ?_
 refine Wr ?_
 refine Oy rfl (Yl.move rfl) ?_
 refine Oy rfl (Yl.move rfl) ?_
 refine OW.copyR (f := encT) (l) (Wn.plain rfl) rfl rw_22 rfl rfl (by repeat constructor) rfl (Src.sl (sz := 2) (xs := l.map encT) (by decide) (by repeat constructor)) (fun _ => rfl) (fun _ => by repeat constructor) ?_
 refine OW.ent (Ent.sealP (f := encT) (E := 34) (sz := 2) (by repeat constructor) (fun _ => rfl)) ?_
 refine OW.nil ?_
 refine Wr ?_
 refine OW.callv (Wn.plain rfl) rfl Tryz.call74 rfl (c_ways) (by repeat constructor) ?_
 refine Oy rfl (Yl.move rfl) ?_
 refine Oy rfl (Yl.indexG 2 4 ⟨Tryz.underlying124, Tryz.sizeOf123⟩ ⟨Tryz.isAgg123, Tryz.sizeOf123⟩ rfl rfl rfl (by decide) rfl (by repeat constructor) (by decide)) ?_
 refine OW.alloc (Wn.plain rfl) rfl Tryz.zeroValue123 (by constructor) (fun b2 => ?_)
 refine OW.store (Wn.plain rfl) Tryz.sizeOf123 rfl rfl (by constructor) (by repeat constructor) rfl (by repeat constructor) (by repeat constructor) ?_
 refine OW.nil ?_
 refine Wr ?_
 refine Oy rfl (Yl.move rfl) ?_
 refine Oy rfl (Yl.build (is := [0]) (xs := [.tmp 24]) st_127 rfl rfl (by repeat constructor)) ?_
 refine Oy rfl (Yl.move rfl) ?_
 refine Oy rfl (Yl.fieldL 1 (fa_123_1) rfl rfl) ?_
 refine Oy rfl (Yl.load1 Tryz.isAgg121 rfl (by repeat constructor) (by repeat constructor)) ?_
 refine Oy rfl (Yl.build (is := [0, 1, 2]) (xs := [.tmp 25, .tmp 26, .tmp 28]) st_129 rfl rfl (by repeat constructor)) ?_
 refine OW.alloc (Wn.plain rfl) rfl Tryz.zeroValue129 (by constructor) (fun b3 => ?_)
 refine OW.store (Wn.plain rfl) Tryz.sizeOf129 rfl rfl (by constructor) (by repeat constructor) rfl (by repeat constructor) (by repeat constructor) ?_
 refine OW.nil ?_
 refine W.seq ?_
 refine W.draw mixed ?_
 refine Aq (i := 0) rfl (Wn.plain rfl) rfl (fun _ => Yl.fieldL 0 (fa_123_0) rfl rfl) ?_
 refine Al (i := 1) rfl (Wn.plain rfl) rfl (by repeat constructor) (Yl.load1 Tryz.isAgg120 rfl .head (by repeat constructor)) ?_
 refine Aq (i := 2) rfl (Wn.plain rfl) rfl (fun _ => Yl.fieldL 0 (fa_129_0) rfl rfl) ?_
 refine Aq (i := 3) rfl (Wn.plain rfl) rfl (fun _ => Yl.fieldL 0 (fa_127_0) rfl rfl) ?_
 refine Al (i := 4) rfl (Wn.plain rfl) rfl (by repeat constructor) (Yl.load1 Tryz.isAgg22 rfl .head (by repeat constructor)) ?_
 refine Aq (i := 5) rfl (Wn.plain rfl) rfl (fun _ => Yl.move rfl) ?_
 refine AW.step (i := 6) rfl (by kernel_rfl) (Wn.plain rfl) rfl (Ex.call rfl rfl rfl (FnC.tri0 Tryz.call45 (c_wbands l _ _ eps (by omega) hok he)) (by repeat constructor)) (.drop (by kernel_rfl) (.keep (by kernel_rfl) .nil)) ?_
 rintro _ _ ⟨_, ⟨ba, bc, rfl, rfl⟩, rfl⟩; refine ⟨by repeat constructor, ?_⟩
 refine AW.step (i := 7) rfl (by kernel_rfl) (Wn.plain rfl) rfl (Ex.call rfl rfl rfl (FnC.triC Tryz.call117 (c_sCut _ _ _ hbm)) (by repeat constructor)) (.drop (by kernel_rfl) .nil) ?_
 rintro _ _ ⟨_, ⟨ca, cc, rfl, rfl⟩, rfl⟩; refine ⟨by repeat constructor, ?_⟩
 refine Aq (i := 8) rfl (Wn.plain rfl) rfl (fun _ => Yl.move rfl) ?_
 refine Aq (i := 9) rfl (Wn.plain rfl) rfl (fun _ => Yl.extract rfl (by repeat constructor)) ?_
 refine Aq (i := 10) rfl (Wn.plain rfl) rfl (fun _ => Yl.extract rfl (by repeat constructor)) ?_
 refine Aq (i := 11) rfl (Wn.plain rfl) rfl (fun _ => Yl.assign rfl) ?_
 refine Aq (i := 12) rfl (Wn.plain rfl) rfl (fun _ => Yl.assign rfl) ?_
 refine AW.done (by kernel_rfl) ?_
 refine Wr ?_
 refine Oy rfl (Yl.load ⟨Tryz.isAgg129, Tryz.sizeOf129⟩ rfl (by repeat constructor) (by repeat constructor)) ?_
 refine Oy rfl (Yl.makeFunc rfl rfl) ?_
 refine OW.alloc (Wn.plain rfl) rfl Tryz.zeroValue76 (by constructor) (fun b4 => ?_)
 refine OW.store (Wn.plain rfl) Tryz.sizeOf76 rfl rfl (by constructor) (by repeat constructor) rfl (by repeat constructor) (by repeat constructor) ?_
 refine OW.nil ?_
 refine Wr ?_
 refine OW.alloc (Wn.plain rfl) rfl Tryz.zeroValue25 (by constructor) (fun b5 => ?_)
 refine OW.nil ?_
 refine W.seq ?_
 refine Wr ?_
 refine Oy rfl (Yl.load ⟨Tryz.isAgg129, Tryz.sizeOf129⟩ rfl (by repeat constructor) (by repeat constructor)) ?_
 refine Oy rfl (Yl.move rfl) ?_
 refine OW.call (Wn.plain rfl) rfl rfl rfl (FnC.tri0 Tryz.call76 (c_wparts _ _ _ eps _ _ _ _ (by repeat constructor))) (by repeat constructor) ?_
 rintro _ _ ⟨bc, bm, rfl, rfl⟩
 refine OW.nil ?_
 refine W.block ?_
 refine W.ent (Ent.new_arr 53 8) ?_
 refine W.ent Ent.segs_nil ?_
 refine W.rangeF (S := (List SgV) × (Option Addr) × (Nat)) (fun (k : Nat) (x : (List SgV) × (Option Addr) × (Nat)) => match x with | (ys, oa, oc) => (ys.map Prod.fst = ((partsM l (cutW2 l eps)).take k).map (ofW2 eps) : Prop)) (fun  (x : (List SgV) × (Option Addr) × (Nat)) => match x with | (ys, oa, oc) => ([.cell b5 [.slice oa ys.length oc] 25, rowR 53 8 encV ys oa oc, .imm (segsI ys), .cell b4 [.func (.func 75) #[.agg #[.slice (some ⟨b1, 0, none⟩) l.length l.length, .int .i64 eps, .func (.func 118) #[] #[]]] #[]] 76] : List Res)) (fun (ex : Exit) (x : (List SgV) × (Option Addr) × (Nat)) => match x with | (ys, oa, oc) => (False : Prop)) (fun  (x : (List SgV) × (Option Addr) × (Nat)) => match x with | (ys, oa, oc) => ([.cell b5 [.slice oa ys.length oc] 25, rowR 53 8 encV ys oa oc, .imm (segsI ys), .cell b4 [.func (.func 75) #[.agg #[.slice (some ⟨b1, 0, none⟩) l.length l.length, .int .i64 eps, .func (.func 118) #[] #[]]] #[]] 76] : List Res)) ([], none, 0) rfl Tryz.call127 (i_wparts l (some ⟨b1, 0, none⟩) l.length eps (.func (.func 118) #[] #[]) (cutW2 l eps) _ _ bc bm (by omega) hcs) (by repeat constructor) (by rfl) rfl (by rintro _ _ _ ⟨_, _, rfl, _⟩; rfl) ?_ ?_ ?_
 ·rintro lp k p ⟨ys, oa, oc⟩ vs Lx hx ⟨pa, pc, rfl, rfl⟩ hI Lf
  show W _ _ _ _ _ _ _ [] ([rowI 2 encT p pa pc] ++ [.cell b5 [.slice oa ys.length oc] 25, rowR 53 8 encV ys oa oc, .imm (segsI ys), .cell b4 [.func (.func 75) #[.agg #[.slice (some ⟨b1, 0, none⟩) l.length l.length, .int .i64 eps, .func (.func 118) #[] #[]]] #[]] 76] ++ Lf)
  have hpp := part_pts hp hcs hx
  have hyl : ys.length ≤ 4000 := by have h1 := congrArg List.length hI; simp at h1; have h2 := partsM_len (cutW2 l eps) l; omega
  refine W.region ?_
  refine Oy rfl (Yl.assign rfl) ?_
  refine OW.nil ?_
  refine ⟨rfl, _, by repeat constructor, fun Lf => ?_⟩
  refine W.block ?_
  refine W.draw mixed ?_
  refine Al (i := 0) rfl (Wn.plain rfl) rfl (by repeat constructor) (Yl.load1 Tryz.isAgg25 rfl .head (by repeat constructor)) ?_
  refine Al (i := 1) rfl (Wn.plain rfl) rfl (by repeat constructor) (Yl.load1 Tryz.isAgg76 rfl .head (by repeat constructor)) ?_
  refine Aq (i := 2) rfl (Wn.plain rfl) rfl (fun _ => Yl.move rfl) ?_
  refine AW.step (i := 3) rfl (by kernel_rfl) (Wn.plain rfl) rfl (Ex.call rfl rfl rfl (FnC.triC Tryz.call75 (c_wofL2 p pa pc eps (some ⟨b1, 0, none⟩) l.length l.length hpp he)) (by repeat constructor)) (.drop (by kernel_rfl) (.keep (by kernel_rfl) .nil)) ?_
  rintro _ _ ⟨_, ⟨xb, rfl, rfl⟩, rfl⟩; refine ⟨by repeat constructor, ?_⟩
  refine AW.ent (Ent.segs_push (ys := ys) (s := ofW2 eps p) (xb := xb) (by repeat constructor) (by repeat constructor) (by repeat constructor)) ?_
  refine AW.step (i := 4) rfl (by kernel_rfl) (Wn.plain rfl) rfl (Ex.lit (is := [0]) (xs := [.tmp 50]) rw_25 rfl rfl rfl (by decide) (by repeat constructor)) (.keep (by kernel_rfl) .nil) ?_
  rintro _ _ ⟨b6, rfl, rfl⟩; refine ⟨by repeat constructor, ?_⟩
  refine AW.step (i := 5) rfl (by kernel_rfl) (Wn.plain rfl) rfl (Ex.push (f := encV) (y := (ofW2 eps p, xb)) rw_25 rfl rfl (by repeat constructor) ⟨_, by repeat constructor⟩ (by rfl) (by rfl) (by repeat constructor) (by omega) (by omega)) (.drop (by kernel_rfl) .nil) ?_
  rintro _ _ ⟨a2, c2, rfl, rfl⟩; refine ⟨by repeat constructor, ?_⟩
  refine AW.step (i := 6) rfl (by kernel_rfl) (Wn.plain rfl) rfl (Ex.store Tryz.sizeOf25 rfl rfl (by constructor) (by repeat constructor) rfl (by repeat constructor) (by repeat constructor)) .nil ?_
  rintro _ _ rfl; refine ⟨by repeat constructor, ?_⟩
  refine AW.done (by kernel_rfl) ?_
  refine ⟨(ys ++ [(ofW2 eps p, xb)], _, _), ?_, EntL (by repeat constructor) (by repeat constructor)⟩
  rw [take_at hx]; simp [hI]
 ·rintro D1 ⟨ys, oa, oc⟩ hI
  rw [List.take_length] at hI
  refine Wr ?_
  refine Oy rfl (Yl.load1 Tryz.isAgg25 rfl (by repeat constructor) (by repeat constructor)) ?_
  refine Oy rfl (Yl.assign rfl) ?_
  refine OW.nil ?_
  refine W.ret ?_
  refine Fin.marks [D1] rfl (by repeat constructor) ?_
  refine Fin.ent (Ent.sealP (f := encV) (E := 53) (sz := 8) (by repeat constructor) (fun _ => rfl)) ?_
  exact Fin.mk (Rsl.one rfl rfl) ⟨_, _, _, hI, rfl, rfl⟩ (by repeat constructor) (by repeat constructor)
 ·rintro _ _ _ h; exact h.elim
theorem c_made3 (l : List Pt) (a : Option Addr) (c : Nat) (eps : Int) (hp : pointsM l = true) (he : 0 ≤ eps ∧ eps ≤ 1099511627776) : FnC Tryz.prog 38 #[.slice a l.length c, .int .i64 eps, .int .i64 3] [rowI 2 encT l a c, glob0] (RetSegs (madeW3 l eps)) := by
 refine FnC.go (m := 54) Tryz.func38 Tryz.ntmps38 rfl (Nat.le_of_ble_eq_true rfl) (fun Lf => ?_)
 have hl := pts_len hp
 have hok := pts_ok hp
 have hbm := bands_of hp he
 have hcs : CutOk (cutW3 l eps) l.length := cutW3_ok l eps
 have hcl := cutOk_len hcs
 refine Wr ?_
 refine Oy rfl (Yl.assign rfl) ?_
 refine OW.nil ?_
 refine Wr ?_
 refine Oy rfl (Yl.move rfl) ?_
 refine Oy rfl (Yl.len ⟨Tryz.underlying22, Tryz.sizeOf34⟩ rfl) ?_
 refine OW.makeN (l.length) (l.length) (Wn.plain rfl) rfl rw_22 rfl rfl rfl rfl (by first | omega | (unfold maxLen; omega)) (by first | omega | (unfold maxLen; omega)) (by first | omega | (unfold maxLen; omega)) (fun b1 xs1 => ?_)
 refine Oy rfl (Yl.assign rfl) ?_
 refine OW.nil ?_
 refine Wr ?_
 refine Oy rfl (Yl.move rfl) ?_
 refine Oy rfl (Yl.move rfl) ?_
 refine OW.copyR (f := encT) (l) (Wn.plain rfl) rfl rw_22 rfl rfl (by repeat constructor) rfl (Src.sl (sz := 2) (xs := l.map encT) (by decide) (by repeat constructor)) (fun _ => rfl) (fun _ => by repeat constructor) ?_
 refine OW.ent (Ent.sealP (f := encT) (E := 34) (sz := 2) (by repeat constructor) (fun _ => rfl)) ?_
 refine OW.nil ?_
 refine Wr ?_
 refine OW.callv (Wn.plain rfl) rfl Tryz.call74 rfl (c_ways) (by repeat constructor) ?_
 refine Oy rfl (Yl.move rfl) ?_
 refine Oy rfl (Yl.indexG 3 6 ⟨Tryz.underlying124, Tryz.sizeOf123⟩ ⟨Tryz.isAgg123, Tryz.sizeOf123⟩ rfl rfl rfl (by decide) rfl (by repeat constructor) (by decide)) ?_
 refine OW.alloc (Wn.plain rfl) rfl Tryz.zeroValue123 (by constructor) (fun b2 => ?_)
 refine OW.store (Wn.plain rfl) Tryz.sizeOf123 rfl rfl (by constructor) (by repeat constructor) rfl (by repeat constructor) (by repeat constructor) ?_
 refine OW.nil ?_
 refine Wr ?_
 refine Oy rfl (Yl.move rfl) ?_
 refine Oy rfl (Yl.build (is := [0]) (xs := [.tmp 24]) st_127 rfl rfl (by repeat constructor)) ?_
 refine Oy rfl (Yl.move rfl) ?_
 refine Oy rfl (Yl.fieldL 1 (fa_123_1) rfl rfl) ?_
 refine Oy rfl (Yl.load1 Tryz.isAgg121 rfl (by repeat constructor) (by repeat constructor)) ?_
 refine Oy rfl (Yl.build (is := [0, 1, 2]) (xs := [.tmp 25, .tmp 26, .tmp 28]) st_129 rfl rfl (by repeat constructor)) ?_
 refine OW.alloc (Wn.plain rfl) rfl Tryz.zeroValue129 (by constructor) (fun b3 => ?_)
 refine OW.store (Wn.plain rfl) Tryz.sizeOf129 rfl rfl (by constructor) (by repeat constructor) rfl (by repeat constructor) (by repeat constructor) ?_
 refine OW.nil ?_
 refine W.seq ?_
 refine W.draw mixed ?_
 refine Aq (i := 0) rfl (Wn.plain rfl) rfl (fun _ => Yl.fieldL 0 (fa_123_0) rfl rfl) ?_
 refine Al (i := 1) rfl (Wn.plain rfl) rfl (by repeat constructor) (Yl.load1 Tryz.isAgg120 rfl .head (by repeat constructor)) ?_
 refine Aq (i := 2) rfl (Wn.plain rfl) rfl (fun _ => Yl.fieldL 0 (fa_129_0) rfl rfl) ?_
 refine Aq (i := 3) rfl (Wn.plain rfl) rfl (fun _ => Yl.fieldL 0 (fa_127_0) rfl rfl) ?_
 refine Al (i := 4) rfl (Wn.plain rfl) rfl (by repeat constructor) (Yl.load1 Tryz.isAgg22 rfl .head (by repeat constructor)) ?_
 refine Aq (i := 5) rfl (Wn.plain rfl) rfl (fun _ => Yl.move rfl) ?_
 refine AW.step (i := 6) rfl (by kernel_rfl) (Wn.plain rfl) rfl (Ex.call rfl rfl rfl (FnC.tri0 Tryz.call45 (c_wbands l _ _ eps (by omega) hok he)) (by repeat constructor)) (.drop (by kernel_rfl) (.keep (by kernel_rfl) .nil)) ?_
 rintro _ _ ⟨_, ⟨ba, bc, rfl, rfl⟩, rfl⟩; refine ⟨by repeat constructor, ?_⟩
 refine AW.step (i := 7) rfl (by kernel_rfl) (Wn.plain rfl) rfl (Ex.call rfl rfl rfl (FnC.triC Tryz.call119 (c_lCut _ _ _ hbm)) (by repeat constructor)) (.drop (by kernel_rfl) .nil) ?_
 rintro _ _ ⟨_, ⟨ca, cc, rfl, rfl⟩, rfl⟩; refine ⟨by repeat constructor, ?_⟩
 refine Aq (i := 8) rfl (Wn.plain rfl) rfl (fun _ => Yl.move rfl) ?_
 refine Aq (i := 9) rfl (Wn.plain rfl) rfl (fun _ => Yl.extract rfl (by repeat constructor)) ?_
 refine Aq (i := 10) rfl (Wn.plain rfl) rfl (fun _ => Yl.extract rfl (by repeat constructor)) ?_
 refine Aq (i := 11) rfl (Wn.plain rfl) rfl (fun _ => Yl.assign rfl) ?_
 refine Aq (i := 12) rfl (Wn.plain rfl) rfl (fun _ => Yl.assign rfl) ?_
 refine AW.done (by kernel_rfl) ?_
 refine Wr ?_
 refine Oy rfl (Yl.load ⟨Tryz.isAgg129, Tryz.sizeOf129⟩ rfl (by repeat constructor) (by repeat constructor)) ?_
 refine Oy rfl (Yl.makeFunc rfl rfl) ?_
 refine OW.alloc (Wn.plain rfl) rfl Tryz.zeroValue76 (by constructor) (fun b4 => ?_)
 refine OW.store (Wn.plain rfl) Tryz.sizeOf76 rfl rfl (by constructor) (by repeat constructor) rfl (by repeat constructor) (by repeat constructor) ?_
 refine OW.nil ?_
 refine Wr ?_
 refine OW.alloc (Wn.plain rfl) rfl Tryz.zeroValue25 (by constructor) (fun b5 => ?_)
 refine OW.nil ?_
 refine W.seq ?_
 refine Wr ?_
 refine Oy rfl (Yl.load ⟨Tryz.isAgg129, Tryz.sizeOf129⟩ rfl (by repeat constructor) (by repeat constructor)) ?_
 refine Oy rfl (Yl.move rfl) ?_
 refine OW.call (Wn.plain rfl) rfl rfl rfl (FnC.tri0 Tryz.call76 (c_wparts _ _ _ eps _ _ _ _ (by repeat constructor))) (by repeat constructor) ?_
 rintro _ _ ⟨bc, bm, rfl, rfl⟩
 refine OW.nil ?_
 refine W.block ?_
 refine W.ent (Ent.new_arr 53 8) ?_
 refine W.ent Ent.segs_nil ?_
 refine W.rangeF (S := (List SgV) × (Option Addr) × (Nat)) (fun (k : Nat) (x : (List SgV) × (Option Addr) × (Nat)) => match x with | (ys, oa, oc) => (ys.map Prod.fst = ((partsM l (cutW3 l eps)).take k).map (ofW3 eps) : Prop)) (fun  (x : (List SgV) × (Option Addr) × (Nat)) => match x with | (ys, oa, oc) => ([.cell b5 [.slice oa ys.length oc] 25, rowR 53 8 encV ys oa oc, .imm (segsI ys), .cell b4 [.func (.func 75) #[.agg #[.slice (some ⟨b1, 0, none⟩) l.length l.length, .int .i64 eps, .func (.func 120) #[] #[]]] #[]] 76, glob0] : List Res)) (fun (ex : Exit) (x : (List SgV) × (Option Addr) × (Nat)) => match x with | (ys, oa, oc) => (False : Prop)) (fun  (x : (List SgV) × (Option Addr) × (Nat)) => match x with | (ys, oa, oc) => ([.cell b5 [.slice oa ys.length oc] 25, rowR 53 8 encV ys oa oc, .imm (segsI ys), .cell b4 [.func (.func 75) #[.agg #[.slice (some ⟨b1, 0, none⟩) l.length l.length, .int .i64 eps, .func (.func 120) #[] #[]]] #[]] 76, glob0] : List Res)) ([], none, 0) rfl Tryz.call127 (i_wparts l (some ⟨b1, 0, none⟩) l.length eps (.func (.func 120) #[] #[]) (cutW3 l eps) _ _ bc bm (by omega) hcs) (by repeat constructor) (by rfl) rfl (by rintro _ _ _ ⟨_, _, rfl, _⟩; rfl) ?_ ?_ ?_
 ·rintro lp k p ⟨ys, oa, oc⟩ vs Lx hx ⟨pa, pc, rfl, rfl⟩ hI Lf
  show W _ _ _ _ _ _ _ [] ([rowI 2 encT p pa pc] ++ [.cell b5 [.slice oa ys.length oc] 25, rowR 53 8 encV ys oa oc, .imm (segsI ys), .cell b4 [.func (.func 75) #[.agg #[.slice (some ⟨b1, 0, none⟩) l.length l.length, .int .i64 eps, .func (.func 120) #[] #[]]] #[]] 76, glob0] ++ Lf)
  have hpp := part_pts hp hcs hx
  have hyl : ys.length ≤ 4000 := by have h1 := congrArg List.length hI; simp at h1; have h2 := partsM_len (cutW3 l eps) l; omega
  refine W.region ?_
  refine Oy rfl (Yl.assign rfl) ?_
  refine OW.nil ?_
  refine ⟨rfl, _, by repeat constructor, fun Lf => ?_⟩
  refine W.block ?_
  refine W.draw mixed ?_
  refine Al (i := 0) rfl (Wn.plain rfl) rfl (by repeat constructor) (Yl.load1 Tryz.isAgg25 rfl .head (by repeat constructor)) ?_
  refine Al (i := 1) rfl (Wn.plain rfl) rfl (by repeat constructor) (Yl.load1 Tryz.isAgg76 rfl .head (by repeat constructor)) ?_
  refine Aq (i := 2) rfl (Wn.plain rfl) rfl (fun _ => Yl.move rfl) ?_
  refine AW.step (i := 3) rfl (by kernel_rfl) (Wn.plain rfl) rfl (Ex.call rfl rfl rfl (FnC.triC Tryz.call75 (c_wofL3 p pa pc eps (some ⟨b1, 0, none⟩) l.length l.length hpp he)) (by repeat constructor)) (.drop (by kernel_rfl) (.keep (by kernel_rfl) .nil)) ?_
  rintro _ _ ⟨_, ⟨xb, rfl, rfl⟩, rfl⟩; refine ⟨by repeat constructor, ?_⟩
  refine AW.ent (Ent.segs_push (ys := ys) (s := ofW3 eps p) (xb := xb) (by repeat constructor) (by repeat constructor) (by repeat constructor)) ?_
  refine AW.step (i := 4) rfl (by kernel_rfl) (Wn.plain rfl) rfl (Ex.lit (is := [0]) (xs := [.tmp 50]) rw_25 rfl rfl rfl (by decide) (by repeat constructor)) (.keep (by kernel_rfl) .nil) ?_
  rintro _ _ ⟨b6, rfl, rfl⟩; refine ⟨by repeat constructor, ?_⟩
  refine AW.step (i := 5) rfl (by kernel_rfl) (Wn.plain rfl) rfl (Ex.push (f := encV) (y := (ofW3 eps p, xb)) rw_25 rfl rfl (by repeat constructor) ⟨_, by repeat constructor⟩ (by rfl) (by rfl) (by repeat constructor) (by omega) (by omega)) (.drop (by kernel_rfl) .nil) ?_
  rintro _ _ ⟨a2, c2, rfl, rfl⟩; refine ⟨by repeat constructor, ?_⟩
  refine AW.step (i := 6) rfl (by kernel_rfl) (Wn.plain rfl) rfl (Ex.store Tryz.sizeOf25 rfl rfl (by constructor) (by repeat constructor) rfl (by repeat constructor) (by repeat constructor)) .nil ?_
  rintro _ _ rfl; refine ⟨by repeat constructor, ?_⟩
  refine AW.done (by kernel_rfl) ?_
  refine ⟨(ys ++ [(ofW3 eps p, xb)], _, _), ?_, EntL (by repeat constructor) (by repeat constructor)⟩
  rw [take_at hx]; simp [hI]
 ·rintro D1 ⟨ys, oa, oc⟩ hI
  rw [List.take_length] at hI
  refine Wr ?_
  refine Oy rfl (Yl.load1 Tryz.isAgg25 rfl (by repeat constructor) (by repeat constructor)) ?_
  refine Oy rfl (Yl.assign rfl) ?_
  refine OW.nil ?_
  refine W.ret ?_
  refine Fin.marks [D1] rfl (by repeat constructor) ?_
  refine Fin.ent (Ent.sealP (f := encV) (E := 53) (sz := 8) (by repeat constructor) (fun _ => rfl)) ?_
  exact Fin.mk (Rsl.one rfl rfl) ⟨_, _, _, hI, rfl, rfl⟩ (by repeat constructor) (by repeat constructor)
 ·rintro _ _ _ h; exact h.elim
theorem c_made4 (l : List Pt) (a : Option Addr) (c : Nat) (eps : Int) (hp : pointsM l = true) (he : 0 ≤ eps ∧ eps ≤ 1099511627776) : FnC Tryz.prog 38 #[.slice a l.length c, .int .i64 eps, .int .i64 4] [rowI 2 encT l a c] (RetSegs (madeW4 l eps)) := by
 refine FnC.go (m := 54) Tryz.func38 Tryz.ntmps38 rfl (Nat.le_of_ble_eq_true rfl) (fun Lf => ?_)
 have hl := pts_len hp
 have hok := pts_ok hp
 have hbm := bands_of hp he
 have hcs : CutOk (cutW4 l eps) l.length := cutW4_ok eps hl.1
 have hcl := cutOk_len hcs
 refine Wr ?_
 refine Oy rfl (Yl.assign rfl) ?_
 refine OW.nil ?_
 refine Wr ?_
 refine Oy rfl (Yl.move rfl) ?_
 refine Oy rfl (Yl.len ⟨Tryz.underlying22, Tryz.sizeOf34⟩ rfl) ?_
 refine OW.makeN (l.length) (l.length) (Wn.plain rfl) rfl rw_22 rfl rfl rfl rfl (by first | omega | (unfold maxLen; omega)) (by first | omega | (unfold maxLen; omega)) (by first | omega | (unfold maxLen; omega)) (fun b1 xs1 => ?_)
 refine Oy rfl (Yl.assign rfl) ?_
 refine OW.nil ?_
 refine Wr ?_
 refine Oy rfl (Yl.move rfl) ?_
 refine Oy rfl (Yl.move rfl) ?_
 refine OW.copyR (f := encT) (l) (Wn.plain rfl) rfl rw_22 rfl rfl (by repeat constructor) rfl (Src.sl (sz := 2) (xs := l.map encT) (by decide) (by repeat constructor)) (fun _ => rfl) (fun _ => by repeat constructor) ?_
 refine OW.ent (Ent.sealP (f := encT) (E := 34) (sz := 2) (by repeat constructor) (fun _ => rfl)) ?_
 refine OW.nil ?_
 refine Wr ?_
 refine OW.callv (Wn.plain rfl) rfl Tryz.call74 rfl (c_ways) (by repeat constructor) ?_
 refine Oy rfl (Yl.move rfl) ?_
 refine Oy rfl (Yl.indexG 4 8 ⟨Tryz.underlying124, Tryz.sizeOf123⟩ ⟨Tryz.isAgg123, Tryz.sizeOf123⟩ rfl rfl rfl (by decide) rfl (by repeat constructor) (by decide)) ?_
 refine OW.alloc (Wn.plain rfl) rfl Tryz.zeroValue123 (by constructor) (fun b2 => ?_)
 refine OW.store (Wn.plain rfl) Tryz.sizeOf123 rfl rfl (by constructor) (by repeat constructor) rfl (by repeat constructor) (by repeat constructor) ?_
 refine OW.nil ?_
 refine Wr ?_
 refine Oy rfl (Yl.move rfl) ?_
 refine Oy rfl (Yl.build (is := [0]) (xs := [.tmp 24]) st_127 rfl rfl (by repeat constructor)) ?_
 refine Oy rfl (Yl.move rfl) ?_
 refine Oy rfl (Yl.fieldL 1 (fa_123_1) rfl rfl) ?_
 refine Oy rfl (Yl.load1 Tryz.isAgg121 rfl (by repeat constructor) (by repeat constructor)) ?_
 refine Oy rfl (Yl.build (is := [0, 1, 2]) (xs := [.tmp 25, .tmp 26, .tmp 28]) st_129 rfl rfl (by repeat constructor)) ?_
 refine OW.alloc (Wn.plain rfl) rfl Tryz.zeroValue129 (by constructor) (fun b3 => ?_)
 refine OW.store (Wn.plain rfl) Tryz.sizeOf129 rfl rfl (by constructor) (by repeat constructor) rfl (by repeat constructor) (by repeat constructor) ?_
 refine OW.nil ?_
 refine W.seq ?_
 refine W.draw mixed ?_
 refine Aq (i := 0) rfl (Wn.plain rfl) rfl (fun _ => Yl.fieldL 0 (fa_123_0) rfl rfl) ?_
 refine Al (i := 1) rfl (Wn.plain rfl) rfl (by repeat constructor) (Yl.load1 Tryz.isAgg120 rfl .head (by repeat constructor)) ?_
 refine Aq (i := 2) rfl (Wn.plain rfl) rfl (fun _ => Yl.fieldL 0 (fa_129_0) rfl rfl) ?_
 refine Aq (i := 3) rfl (Wn.plain rfl) rfl (fun _ => Yl.fieldL 0 (fa_127_0) rfl rfl) ?_
 refine Al (i := 4) rfl (Wn.plain rfl) rfl (by repeat constructor) (Yl.load1 Tryz.isAgg22 rfl .head (by repeat constructor)) ?_
 refine Aq (i := 5) rfl (Wn.plain rfl) rfl (fun _ => Yl.move rfl) ?_
 refine AW.step (i := 6) rfl (by kernel_rfl) (Wn.plain rfl) rfl (Ex.call rfl rfl rfl (FnC.tri0 Tryz.call45 (c_wbands l _ _ eps (by omega) hok he)) (by repeat constructor)) (.drop (by kernel_rfl) (.keep (by kernel_rfl) .nil)) ?_
 rintro _ _ ⟨_, ⟨ba, bc, rfl, rfl⟩, rfl⟩; refine ⟨by repeat constructor, ?_⟩
 refine AW.step (i := 7) rfl (by kernel_rfl) (Wn.plain rfl) rfl (Ex.call rfl rfl rfl (FnC.triC Tryz.call114 (c_ways1 _ _ _)) (by repeat constructor)) (.drop (by kernel_rfl) .nil) ?_
 rintro _ _ ⟨_, ⟨ca, cc, rfl, rfl⟩, rfl⟩; refine ⟨by repeat constructor, ?_⟩
 refine Aq (i := 8) rfl (Wn.plain rfl) rfl (fun _ => Yl.move rfl) ?_
 refine Aq (i := 9) rfl (Wn.plain rfl) rfl (fun _ => Yl.extract rfl (by repeat constructor)) ?_
 refine Aq (i := 10) rfl (Wn.plain rfl) rfl (fun _ => Yl.extract rfl (by repeat constructor)) ?_
 refine Aq (i := 11) rfl (Wn.plain rfl) rfl (fun _ => Yl.assign rfl) ?_
 refine Aq (i := 12) rfl (Wn.plain rfl) rfl (fun _ => Yl.assign rfl) ?_
 refine AW.done (by kernel_rfl) ?_
 refine Wr ?_
 refine Oy rfl (Yl.load ⟨Tryz.isAgg129, Tryz.sizeOf129⟩ rfl (by repeat constructor) (by repeat constructor)) ?_
 refine Oy rfl (Yl.makeFunc rfl rfl) ?_
 refine OW.alloc (Wn.plain rfl) rfl Tryz.zeroValue76 (by constructor) (fun b4 => ?_)
 refine OW.store (Wn.plain rfl) Tryz.sizeOf76 rfl rfl (by constructor) (by repeat constructor) rfl (by repeat constructor) (by repeat constructor) ?_
 refine OW.nil ?_
 refine Wr ?_
 refine OW.alloc (Wn.plain rfl) rfl Tryz.zeroValue25 (by constructor) (fun b5 => ?_)
 refine OW.nil ?_
 refine W.seq ?_
 refine Wr ?_
 refine Oy rfl (Yl.load ⟨Tryz.isAgg129, Tryz.sizeOf129⟩ rfl (by repeat constructor) (by repeat constructor)) ?_
 refine Oy rfl (Yl.move rfl) ?_
 refine OW.call (Wn.plain rfl) rfl rfl rfl (FnC.tri0 Tryz.call76 (c_wparts _ _ _ eps _ _ _ _ (by repeat constructor))) (by repeat constructor) ?_
 rintro _ _ ⟨bc, bm, rfl, rfl⟩
 refine OW.nil ?_
 refine W.block ?_
 refine W.ent (Ent.new_arr 53 8) ?_
 refine W.ent Ent.segs_nil ?_
 refine W.rangeF (S := (List SgV) × (Option Addr) × (Nat)) (fun (k : Nat) (x : (List SgV) × (Option Addr) × (Nat)) => match x with | (ys, oa, oc) => (ys.map Prod.fst = ((partsM l (cutW4 l eps)).take k).map (ofW4 eps) : Prop)) (fun  (x : (List SgV) × (Option Addr) × (Nat)) => match x with | (ys, oa, oc) => ([.cell b5 [.slice oa ys.length oc] 25, rowR 53 8 encV ys oa oc, .imm (segsI ys), .cell b4 [.func (.func 75) #[.agg #[.slice (some ⟨b1, 0, none⟩) l.length l.length, .int .i64 eps, .nilFunc]] #[]] 76] : List Res)) (fun (ex : Exit) (x : (List SgV) × (Option Addr) × (Nat)) => match x with | (ys, oa, oc) => (False : Prop)) (fun  (x : (List SgV) × (Option Addr) × (Nat)) => match x with | (ys, oa, oc) => ([.cell b5 [.slice oa ys.length oc] 25, rowR 53 8 encV ys oa oc, .imm (segsI ys), .cell b4 [.func (.func 75) #[.agg #[.slice (some ⟨b1, 0, none⟩) l.length l.length, .int .i64 eps, .nilFunc]] #[]] 76] : List Res)) ([], none, 0) rfl Tryz.call127 (i_wparts l (some ⟨b1, 0, none⟩) l.length eps (.nilFunc) (cutW4 l eps) _ _ bc bm (by omega) hcs) (by repeat constructor) (by rfl) rfl (by rintro _ _ _ ⟨_, _, rfl, _⟩; rfl) ?_ ?_ ?_
 ·rintro lp k p ⟨ys, oa, oc⟩ vs Lx hx ⟨pa, pc, rfl, rfl⟩ hI Lf
  show W _ _ _ _ _ _ _ [] ([rowI 2 encT p pa pc] ++ [.cell b5 [.slice oa ys.length oc] 25, rowR 53 8 encV ys oa oc, .imm (segsI ys), .cell b4 [.func (.func 75) #[.agg #[.slice (some ⟨b1, 0, none⟩) l.length l.length, .int .i64 eps, .nilFunc]] #[]] 76] ++ Lf)
  have hpp := part_pts hp hcs hx
  have hyl : ys.length ≤ 4000 := by have h1 := congrArg List.length hI; simp at h1; have h2 := partsM_len (cutW4 l eps) l; omega
  refine W.region ?_
  refine Oy rfl (Yl.assign rfl) ?_
  refine OW.nil ?_
  refine ⟨rfl, _, by repeat constructor, fun Lf => ?_⟩
  refine W.block ?_
  refine W.draw mixed ?_
  refine Al (i := 0) rfl (Wn.plain rfl) rfl (by repeat constructor) (Yl.load1 Tryz.isAgg25 rfl .head (by repeat constructor)) ?_
  refine Al (i := 1) rfl (Wn.plain rfl) rfl (by repeat constructor) (Yl.load1 Tryz.isAgg76 rfl .head (by repeat constructor)) ?_
  refine Aq (i := 2) rfl (Wn.plain rfl) rfl (fun _ => Yl.move rfl) ?_
  refine AW.step (i := 3) rfl (by kernel_rfl) (Wn.plain rfl) rfl (Ex.call rfl rfl rfl (FnC.triC Tryz.call75 (c_wofR p pa pc eps (some ⟨b1, 0, none⟩) l.length l.length hpp he)) (by repeat constructor)) (.drop (by kernel_rfl) (.keep (by kernel_rfl) .nil)) ?_
  rintro _ _ ⟨_, ⟨xb, rfl, rfl⟩, rfl⟩; refine ⟨by repeat constructor, ?_⟩
  refine AW.ent (Ent.segs_push (ys := ys) (s := ofW4 eps p) (xb := xb) (by repeat constructor) (by repeat constructor) (by repeat constructor)) ?_
  refine AW.step (i := 4) rfl (by kernel_rfl) (Wn.plain rfl) rfl (Ex.lit (is := [0]) (xs := [.tmp 50]) rw_25 rfl rfl rfl (by decide) (by repeat constructor)) (.keep (by kernel_rfl) .nil) ?_
  rintro _ _ ⟨b6, rfl, rfl⟩; refine ⟨by repeat constructor, ?_⟩
  refine AW.step (i := 5) rfl (by kernel_rfl) (Wn.plain rfl) rfl (Ex.push (f := encV) (y := (ofW4 eps p, xb)) rw_25 rfl rfl (by repeat constructor) ⟨_, by repeat constructor⟩ (by rfl) (by rfl) (by repeat constructor) (by omega) (by omega)) (.drop (by kernel_rfl) .nil) ?_
  rintro _ _ ⟨a2, c2, rfl, rfl⟩; refine ⟨by repeat constructor, ?_⟩
  refine AW.step (i := 6) rfl (by kernel_rfl) (Wn.plain rfl) rfl (Ex.store Tryz.sizeOf25 rfl rfl (by constructor) (by repeat constructor) rfl (by repeat constructor) (by repeat constructor)) .nil ?_
  rintro _ _ rfl; refine ⟨by repeat constructor, ?_⟩
  refine AW.done (by kernel_rfl) ?_
  refine ⟨(ys ++ [(ofW4 eps p, xb)], _, _), ?_, EntL (by repeat constructor) (by repeat constructor)⟩
  rw [take_at hx]; simp [hI]
 ·rintro D1 ⟨ys, oa, oc⟩ hI
  rw [List.take_length] at hI
  refine Wr ?_
  refine Oy rfl (Yl.load1 Tryz.isAgg25 rfl (by repeat constructor) (by repeat constructor)) ?_
  refine Oy rfl (Yl.assign rfl) ?_
  refine OW.nil ?_
  refine W.ret ?_
  refine Fin.marks [D1] rfl (by repeat constructor) ?_
  refine Fin.ent (Ent.sealP (f := encV) (E := 53) (sz := 8) (by repeat constructor) (fun _ => rfl)) ?_
  exact Fin.mk (Rsl.one rfl rfl) ⟨_, _, _, hI, rfl, rfl⟩ (by repeat constructor) (by repeat constructor)
 ·rintro _ _ _ h; exact h.elim
end Go.Yb
