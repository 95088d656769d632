/-
  A part of the proof of windowLine_holds: see the text that holds it. No conditions of its own.
-/
import Derived.Test.YtbfhhinhjgdgpaaGreatDoorLaw13
namespace Go.Yb
open Go Go.Proofs Go.RowKit

section
variable {P : Program} {e : Env} {L L' : List Res} {d : Option Tmp} {ty : TypeId} {pos : String} {af : Array Edge} {g : Option (Nat × Bool)}
/-- a part of an element of a slice -/
theorem Yl.loadSub {T : TypeId} {sz i o k : Nat} {x : Operand} {p : Addr} {m c : Nat} {xs : List (List Value)} {u us : List Value} (hT : AggT P T k) (hx : Env.ev e x = some (.pointer (some ((p.add (i * sz)).add o))))
    (hp : Pick (.imm (Sl sz (some p) m c xs)) L L') (hu : xs[i]? = some u) (hv : SubI u o k us) : Yl P e L ⟨d, .load T x, ty, pos, af, g⟩ (.agg us.toArray) :=
  Yl.of rfl fun _ _ _ _ w ha hs => by
    obtain ⟨hl, hv⟩ := hv.spec
    have hc : ∀ j v, us[j]? = some v → w.cell? (((p.add (i * sz)).add o).add j) = some v := fun j v hj => by
      have hlt : j < k := by rw [← hl]; exact (List.getElem?_eq_some_iff.1 hj).1
      rw [addr_add_add]
      exact (Sl.cells hs hp hu).2 _ _ (by rw [hv j hlt]; exact hj)
    have hr := run_loadCells_list (P := P) (w := w) ((p.add (i * sz)).add o) us hc
    rw [hl] at hr
    simp [execOp, ha.eval hx, Instr.loadAt, Instr.sureAddr, loadVar, hT.1 w, hT.2 w, hr]
end
theorem one_seg {zs : List SgV} {s : Sg} (h : zs.map Prod.fst = [s]) : ∃ x, zs = [(s, x)] := by
 match zs, h with
 | [(a, x)], h => simp at h; subst h; exact ⟨x, rfl⟩
theorem c_wWay_ok (l : List Pt) (a : Option Addr) (c : Nat) (eps w : Int) (h : bothE l eps = 0) (hw : 1 ≤ w ∧ w ≤ 4) : FnC Tryz.prog 11 #[.slice a l.length c, .int .i64 eps, .int .i64 w] [rowI 2 encT l a c, glob0]
    (fun v L' => ∃ (ys : List SgV) (a : Option Addr) (c : Nat), ys.map Prod.fst = madeW w l eps ∧ v = .tuple [.slice a ys.length c, .int .i64 0].toArray ∧ L' = [rowI 8 encV ys a c, .imm (segsI ys)]) :=
  (c_wWay l a c eps w).mono fun v L' hx => by
    rcases hx with ⟨h1, _⟩ | ⟨_, h1, _⟩ | ⟨_, _, h2⟩
    · exact absurd h h1
    · exact absurd hw h1
    · exact h2
theorem c_wWay_no (l : List Pt) (a : Option Addr) (c : Nat) (eps w : Int) (h : ¬ bothE l eps = 0) : FnC Tryz.prog 11 #[.slice a l.length c, .int .i64 eps, .int .i64 w] [rowI 2 encT l a c, glob0]
    (fun v L' => v = .tuple [.slice none 0 0, .int .i64 (bothE l eps)].toArray ∧ L' = []) :=
  (c_wWay l a c eps w).mono fun v L' hx => by
    rcases hx with ⟨_, h1⟩ | ⟨h0, _⟩ | ⟨h0, _⟩
    · exact h1
    · exact absurd h0 h
    · exact absurd h0 h
theorem c_wChoose_ok (l : List Pt) (a : Option Addr) (c : Nat) (eps : Int) (h : bothE l eps = 0) : FnC Tryz.prog 35 #[.slice a l.length c, .int .i64 eps] [rowI 2 encT l a c, glob0]
    (fun v L' => ∃ (ys : List SgV) (a : Option Addr) (c : Nat), ys.map Prod.fst = (bestM l eps).2 ∧ v = .tuple [.slice a ys.length c, .int .i64 0].toArray ∧ L' = [rowI 8 encV ys a c, .imm (segsI ys)]) :=
  (c_wChoose l a c eps).mono fun v L' hx => by
    rcases hx with ⟨h1, _⟩ | ⟨_, h2⟩
    · exact absurd h h1
    · exact h2
theorem c_wBands_ok (l : List Pt) (a : Option Addr) (c : Nat) (eps : Int) (h : bothE l eps = 0) : FnC Tryz.prog 16 #[.slice a l.length c, .int .i64 eps] [rowI 2 encT l a c]
    (fun v L' => ∃ (a : Option Addr) (c : Nat), v = .tuple [.slice a (l.map (bandP eps)).length c, .int .i64 0].toArray ∧ L' = [rowI 3 encB (l.map (bandP eps)) a c]) :=
  (c_wBands l a c eps).mono fun v L' hx => by
    rcases hx with ⟨h1, _⟩ | ⟨_, h2⟩
    · exact absurd h h1
    · exact h2
theorem c_wBands_no (l : List Pt) (a : Option Addr) (c : Nat) (eps : Int) (h : ¬ bothE l eps = 0) : FnC Tryz.prog 16 #[.slice a l.length c, .int .i64 eps] [rowI 2 encT l a c]
    (fun v L' => v = .tuple [.slice none 0 0, .int .i64 (bothE l eps)].toArray ∧ L' = []) :=
  (c_wBands l a c eps).mono fun v L' hx => by
    rcases hx with ⟨_, h1⟩ | ⟨h0, _⟩
    · exact h1
    · exact absurd h0 h
theorem c_wBest4 (a : Option Addr) (c : Nat) : FnC Tryz.prog 36 #[.slice a l4.length c, .int .i64 0] [rowI 2 encT l4 a c, glob0] (fun v L' => v = .tuple [.int .i64 2, .int .i64 0].toArray ∧ L' = []) :=
  (c_wBest l4 a c 0).mono fun v L' h => by rw [wk0, if_pos rfl, wk2] at h; exact h
theorem c_wakes13  : FnV Tryz.prog 9 #[] [glob0] (.bool true) := by
 refine FnC.go (m := 60) Tryz.func9 Tryz.ntmps9 rfl (Nat.le_of_ble_eq_true rfl) (fun Lf => ?_)
 refine Wr ?_
 refine Oy rfl (Yl.assign rfl) ?_
 refine OW.nil ?_
 refine Wr ?_
 refine Oy rfl (Yl.build (is := [0, 1]) (xs := [.const (.int .i64 0), .const (.int .i64 0)]) st_34 rfl rfl (by repeat constructor)) ?_
 refine Oy rfl (Yl.build (is := [0, 1]) (xs := [.const (.int .i64 1), .const (.int .i64 1)]) st_34 rfl rfl (by repeat constructor)) ?_
 refine Oy rfl (Yl.build (is := [0, 1]) (xs := [.const (.int .i64 2), .const (.int .i64 2)]) st_34 rfl rfl (by repeat constructor)) ?_
 refine Oy rfl (Yl.build (is := [0, 1]) (xs := [.const (.int .i64 3), .const (.int .i64 3)]) st_34 rfl rfl (by repeat constructor)) ?_
 refine OW.lit (is := [0, 1, 2, 3]) (xs := [.tmp 8, .tmp 9, .tmp 10, .tmp 11]) (Wn.plain rfl) rfl rw_22 rfl rfl rfl (by decide) (by repeat constructor) (fun b1 => ?_)
 refine OW.ent (Ent.seal_cell (sz := 2) encT (l4) rfl (fun _ => rfl) (by first | decide | simp)) ?_
 refine Oy rfl (Yl.assign rfl) ?_
 refine OW.nil ?_
 refine Wr ?_
 refine Oy rfl (Yl.move rfl) ?_
 refine OW.call (Wn.plain rfl) rfl rfl rfl (FnC.tri0 Tryz.call36 (c_wBest4 _ _)) (by repeat constructor) ?_
 rintro _ _ ⟨rfl, rfl⟩
 refine Oy rfl (Yl.move rfl) ?_
 refine Oy rfl (Yl.extract rfl (by repeat constructor)) ?_
 refine Oy rfl (Yl.extract rfl (by repeat constructor)) ?_
 refine Oy rfl (Yl.assign rfl) ?_
 refine Oy rfl (Yl.assign rfl) ?_
 refine OW.nil ?_
 refine Wr ?_
 refine Oy rfl (Yl.move rfl) ?_
 refine OW.call (Wn.plain rfl) rfl rfl rfl (FnC.tri0 Tryz.call11 (c_wWay_ok l4 _ _ 0 1 wk0 (by decide))) (by repeat constructor) ?_
 rintro _ _ ⟨ys, ya, yc, hys, rfl, rfl⟩
 have hyl : ys.length = 4 := by have h1 := congrArg List.length hys; rw [wk1] at h1; simp at h1; exact h1
 refine Oy rfl (Yl.move rfl) ?_
 refine Oy rfl (Yl.extract rfl (by repeat constructor)) ?_
 refine Oy rfl (Yl.extract rfl (by repeat constructor)) ?_
 refine Oy rfl (Yl.assign rfl) ?_
 refine Oy rfl (Yl.assign rfl) ?_
 refine OW.nil ?_
 refine Wr ?_
 refine Oy rfl (Yl.move rfl) ?_
 refine OW.call (Wn.plain rfl) rfl rfl rfl (FnC.tri0 Tryz.call35 (c_wChoose_ok l4 _ _ 0 wk0)) (by repeat constructor) ?_
 rintro _ _ ⟨zs, za, zc, hzs, rfl, rfl⟩
 rw [wk2] at hzs
 obtain ⟨xz, rfl⟩ := one_seg hzs
 have hz : ([(s4, xz)] : List SgV)[0]? = some (s4, xz) := rfl
 refine Oy rfl (Yl.move rfl) ?_
 refine Oy rfl (Yl.extract rfl (by repeat constructor)) ?_
 refine Oy rfl (Yl.extract rfl (by repeat constructor)) ?_
 refine Oy rfl (Yl.assign rfl) ?_
 refine Oy rfl (Yl.assign rfl) ?_
 refine OW.nil ?_
 refine Wr ?_
 refine Oy rfl (Yl.move rfl) ?_
 refine Oy rfl (Yl.eql rfl rfl) ?_
 refine Oy rfl (Yl.move rfl) ?_
 refine OW.yl (Wn.run rfl rfl rfl (by first | decide | rfl)) rfl (Yl.move rfl) ?_
 refine OW.yl (Wn.run rfl rfl rfl (by first | decide | rfl)) rfl (Yl.eql rfl rfl) ?_
 refine Oy rfl (Yl.pick_true rfl (by first | decide | rfl) rfl) ?_
 refine Oy rfl (Yl.move rfl) ?_
 refine OW.yl (Wn.run rfl rfl rfl (by first | decide | rfl)) rfl (Yl.move rfl) ?_
 refine OW.yl (Wn.run rfl rfl rfl (by first | decide | rfl)) rfl (Yl.len ⟨Tryz.underlying25, Tryz.sizeOf53⟩ rfl) ?_
 refine OW.yl (Wn.run rfl rfl rfl (by first | decide | rfl)) rfl (Yl.eql rfl rfl) ?_
 refine Oy rfl (Yl.pick_true rfl (by first | decide | rfl) rfl) ?_
 refine Oy rfl (Yl.move rfl) ?_
 refine OW.split (t := 39) rfl (fun hq1 => ?_) (fun hq1 => ?_)
 ·have hq1d := of_decide_eq_true hq1
  refine OW.yl (Wn.run rfl rfl rfl hq1) rfl (Yl.move rfl) ?_
  refine OW.yl (Wn.run rfl rfl rfl hq1) rfl (Yl.eql rfl rfl) ?_
  refine Oy rfl (Yl.pick_true rfl hq1 rfl) ?_
  refine Oy rfl (Yl.move rfl) ?_
  refine OW.yl (Wn.run rfl rfl rfl (by first | decide | rfl)) rfl (Yl.move rfl) ?_
  refine OW.yl (Wn.run rfl rfl rfl (by first | decide | rfl)) rfl (Yl.eql rfl rfl) ?_
  refine Oy rfl (Yl.pick_true rfl (by first | decide | rfl) rfl) ?_
  refine Oy rfl (Yl.move rfl) ?_
  refine OW.yl (Wn.run rfl rfl rfl (by first | decide | rfl)) rfl (Yl.move rfl) ?_
  refine OW.yl (Wn.run rfl rfl rfl (by first | decide | rfl)) rfl (Yl.len ⟨Tryz.underlying25, Tryz.sizeOf53⟩ rfl) ?_
  refine OW.yl (Wn.run rfl rfl rfl (by first | decide | rfl)) rfl (Yl.eql rfl rfl) ?_
  refine Oy rfl (Yl.pick_true rfl (by first | decide | rfl) rfl) ?_
  refine Oy rfl (Yl.move rfl) ?_
  refine OW.yl (Wn.run rfl rfl rfl (by first | decide | rfl)) rfl (Yl.move rfl) ?_
  refine OW.fact (Sl.isSome (a := za) (by repeat constructor) (by simp)) ?_
  rintro ⟨p1, hp1⟩; try dsimp only at hp1
  subst hp1
  refine OW.yl (Wn.run rfl rfl rfl (by first | decide | rfl)) rfl (Yl.indexS 0 ⟨Tryz.underlying25, Tryz.sizeOf53⟩ rfl rfl rfl (by simp)) ?_
  refine OW.yl (Wn.run rfl rfl rfl (by first | decide | rfl)) rfl (Yl.fieldA (fa_53_2) rfl) ?_
  refine OW.yl (Wn.run rfl rfl rfl (by first | decide | rfl)) rfl (Yl.loadSub ⟨Tryz.isAgg37, Tryz.sizeOf37⟩ rfl (by repeat constructor) (map_at hz) (by repeat constructor)) ?_
  refine OW.yl (Wn.run rfl rfl rfl (by first | decide | rfl)) rfl (Yl.build (is := [2, 3]) (xs := [.const (.int .i64 1), .const (.int .i64 1)]) st_37 rfl rfl (by repeat constructor)) ?_
  refine OW.yl (Wn.run rfl rfl rfl (by first | decide | rfl)) rfl (Yl.eqst (eqv_37 s4.Line ⟨0, 0, 1, 1⟩) rfl rfl) ?_
  refine Oy rfl (Yl.pick_true rfl (by first | decide | rfl) rfl) ?_
  refine Oy rfl (Yl.assign rfl) ?_
  refine OW.nil ?_
  refine W.ret ?_
  refine Fin.mk (Rsl.one rfl rfl) ⟨?_, rfl⟩ (by repeat constructor) (by repeat constructor)
  rfl
 ·have hq1d := of_decide_eq_false hq1
  exfalso; first | omega | (simp at hq1d; omega) | (simp at hq1d)
end Go.Yb
