/-
  A part of the proof of windowLine_holds: see the text that holds it. No conditions of its own.
-/
import Derived.Test.YtbfhhinhjgdgpaaGreatDoorWin
namespace Go.Yb
open Go Go.Proofs Go.RowKit

theorem chkT_of : ∀ {l : List Pt} {last : Int}, chkP last l = true → chkT last (l.map Pt.T) = true
  | [], _, _ => rfl
  | p :: l, last, h => by
    simp only [chkP, ptB, Bool.and_eq_true, decide_eq_true_eq] at h
    simp only [List.map_cons, chkT, Bool.and_eq_true, decide_eq_true_eq]
    exact ⟨h.2.1, by omega, chkT_of h.2.2⟩
theorem times_of {l : List Pt} (h : pointsM l = true) : timesOkM (l.map Pt.T) = true := by
 have hl := pts_len h
 simp only [pointsM, Bool.and_eq_true] at h
 exact timesOk_t (by simp; omega) (chkT_of h.2)
theorem chkB_of {eps : Int} (he : 0 ≤ eps ∧ eps ≤ 1099511627776) : ∀ {l : List Pt} {last : Int}, chkP last l = true → chkB last (l.map (bandP eps)) = true
  | [], _, _ => rfl
  | p :: l, last, h => by
    simp only [chkP, ptB, Bool.and_eq_true, decide_eq_true_eq] at h
    simp only [List.map_cons, chkB, okB, backM, bandP, Bool.and_eq_true, decide_eq_true_eq]
    exact ⟨⟨⟨⟨⟨h.2.1, by omega⟩, by omega⟩, by omega⟩, by omega⟩, chkB_of he h.2.2⟩
theorem bands_of {l : List Pt} {eps : Int} (h : pointsM l = true) (he : 0 ≤ eps ∧ eps ≤ 1099511627776) : bandsM (l.map (bandP eps)) = true := by
 have hl := pts_len h
 simp only [pointsM, Bool.and_eq_true] at h
 simp only [bandsM, chkB_of he h.2, Bool.and_true, decide_eq_true_eq, List.length_map]
 omega
theorem chkP_weak : ∀ {l : List Pt} {a b : Int}, b ≤ a → chkP a l = true → chkP b l = true
  | [], _, _, _, _ => rfl
  | p :: l, a, b, hab, h => by
    simp only [chkP, Bool.and_eq_true, decide_eq_true_eq] at h ⊢
    exact ⟨h.1, by omega, h.2.2⟩
theorem chkP_take : ∀ {l : List Pt} {a : Int} (n : Nat), chkP a l = true → chkP a (l.take n) = true
  | [], _, n, _ => by simp [chkP]
  | p :: l, a, 0, _ => rfl
  | p :: l, a, n + 1, h => by
    simp only [List.take_succ_cons, chkP, Bool.and_eq_true] at h ⊢
    exact ⟨h.1, h.2.1, chkP_take n h.2.2⟩
theorem chkP_drop : ∀ {l : List Pt} (n : Nat), chkP (-1) l = true → chkP (-1) (l.drop n) = true
  | [], n, _ => by simp [chkP]
  | p :: l, 0, h => h
  | p :: l, n + 1, h => by
    have h0 := h
    simp only [chkP, ptB, Bool.and_eq_true, decide_eq_true_eq] at h
    exact chkP_drop n (chkP_weak (by omega) h.2.2)
theorem pts_part {l : List Pt} (h : pointsM l = true) (i n : Nat) (h1 : 1 ≤ n) (h2 : i + n ≤ l.length) : pointsM ((l.drop i).take n) = true := by
 have hl := pts_len h
 simp only [pointsM, Bool.and_eq_true] at h
 exact pts_t (by simp; omega) (chkP_take n (chkP_drop i h.2))
theorem c_rOf_ok (l : List Int) (a : Option Addr) (c : Nat) (h : timesOkM l = true) : FnC Tryz.prog 123 #[.slice a l.length c] [rowI 1 encI l a c] (fun v L' => ∃ a' c', v = .tuple [.slice a' (laidM l).length c', .int .i64 0].toArray ∧ L' = [rowI 3 encR (laidM l) a' c']) :=
  (c_rOf l a c).mono fun v L' hx => by
    rcases hx with ⟨h1, _⟩ | ⟨_, h2⟩
    · rw [h] at h1; cases h1
    · exact h2
def runsP (l : List Pt) : List Rn := laidM (l.map Pt.T)
def setErr (s : Sg) (e : Int) : Sg := ⟨s.Kind, s.Runs, s.Line, s.Raw, e⟩
def linG (x : Lin) (l : List Pt) : Sg := madeS (linS (runsP l) x 0)
def ofL (x : Lin) (l : List Pt) : Sg := setErr (linG x l) (if segM (linG x l) then farV (linG x l) l else 0)
def ofR (l : List Pt) : Sg := madeS (rawS (runsP l) (l.map Pt.V) 0)
def RetSg (s : Sg) : Value → List Res → Prop := fun v L' => ∃ xb : SgA, v = .agg (encG s xb).toArray ∧ L' = [rowI 3 encR s.Runs xb.ra xb.rc, rowI 1 encI s.Raw xb.wa xb.wc]
def flatL (b : List Bnd) : Lin := ⟨(fitM b).getD 0, 0, 0, 1⟩
theorem c_wofL1 (l : List Pt) (a : Option Addr) (c : Nat) (eps : Int) (ma : Option Addr) (mn mc : Nat) (hp : pointsM l = true) (he : 0 ≤ eps ∧ eps ≤ 1099511627776) : FnC Tryz.prog 75 #[.agg [.slice ma mn mc, .int .i64 eps, .func (.func 116) #[] #[]].toArray, .slice a l.length c] [rowI 2 encT l a c] (RetSg (ofL (flatL (l.map (bandP eps))) l)) := by
 refine FnC.go (m := 56) Tryz.func75 Tryz.ntmps75 rfl (Nat.le_of_ble_eq_true rfl) (fun Lf => ?_)
 have hl := pts_len hp
 have hok := pts_ok hp
 have ht := times_of hp
 have hbm := bands_of hp he
 refine Wr ?_
 refine OW.box (Wn.plain rfl) rfl rfl (by constructor) (fun b1 => ?_)
 refine OW.alloc (Wn.plain rfl) rfl Tryz.zeroValue53 (by constructor) (fun b2 => ?_)
 refine OW.nil ?_
 refine Wr ?_
 refine Oy rfl (Yl.move rfl) ?_
 refine OW.call (Wn.plain rfl) rfl rfl rfl (FnC.tri0 Tryz.call121 (c_wallT l _ _ (by omega))) (by repeat constructor) ?_
 rintro _ _ ⟨ta, tc, rfl, rfl⟩
 refine Oy rfl (Yl.assign rfl) ?_
 refine OW.nil ?_
 refine Wr ?_
 refine Oy rfl (Yl.move rfl) ?_
 refine OW.call (Wn.plain rfl) rfl rfl rfl (FnC.tri0 Tryz.call123 (c_rOf_ok _ _ _ ht)) (by repeat constructor) ?_
 rintro _ _ ⟨ra, rc, rfl, rfl⟩
 refine Oy rfl (Yl.move rfl) ?_
 refine Oy rfl (Yl.extract rfl (by repeat constructor)) ?_
 refine Oy rfl (Yl.extract rfl (by repeat constructor)) ?_
 refine Oy rfl (Yl.assign rfl) ?_
 refine Oy rfl (Yl.assign rfl) ?_
 refine OW.nil ?_
 refine W.seq ?_
 refine Wr ?_
 refine Oy rfl (Yl.fieldL 2 (fa_129_2) rfl rfl) ?_
 refine Oy rfl (Yl.load1 Tryz.isAgg121 rfl (by repeat constructor) (by repeat constructor)) ?_
 refine Oy rfl (Yl.eqnilF Tryz.underlying121 rfl) ?_
 refine OW.nil ?_
 refine W.cond_false rfl ?_
 refine W.skip ?_
 refine W.seqS (X := (Nat)) (R0 := []) (fun (bx : (Nat)) => (True : Prop)) (fun (bx : (Nat)) => ([(10, .pointer (some ⟨bx, 0, none⟩))] : Env)) (fun (bx : (Nat)) => ([.cell bx (encL (flatL (l.map (bandP eps)))) 37] : List Res)) [(1, _), (4, _), (6, _)] (Le.cons rfl (Le.cons rfl (Le.cons rfl (Le.nil _)))) (by repeat constructor) ?_ ?_
 ·refine W.draw mixed ?_
  refine Aq (i := 0) rfl (Wn.plain rfl) rfl (fun _ => Yl.fieldL 2 (fa_129_2) rfl rfl) ?_
  refine Al (i := 1) rfl (Wn.plain rfl) rfl (by repeat constructor) (Yl.load1 Tryz.isAgg121 rfl .head (by repeat constructor)) ?_
  refine Aq (i := 2) rfl (Wn.plain rfl) rfl (fun _ => Yl.move rfl) ?_
  refine Aq (i := 3) rfl (Wn.plain rfl) rfl (fun _ => Yl.fieldL 1 (fa_129_1) rfl rfl) ?_
  refine Al (i := 4) rfl (Wn.plain rfl) rfl (by repeat constructor) (Yl.load1 Tryz.isAgg2 rfl .head (by repeat constructor)) ?_
  refine AW.two 5 10 (by kernel_rfl) ?_ ?_
  ·refine AWi.step (i := 5) rfl (Wn.plain rfl) rfl (Ex.call rfl rfl rfl (FnC.tri0 Tryz.call45 (c_wbands l _ _ eps (by omega) hok he)) (by repeat constructor)) (.drop (by kernel_rfl) (.keep (by kernel_rfl) .nil)) ?_
   rintro _ _ ⟨_, ⟨ba, bc, rfl, rfl⟩, rfl⟩; refine ⟨by repeat constructor, ?_⟩
   refine AW.two 6 10 (by kernel_rfl) ?_ ?_
   ·refine AWi.step (i := 6) rfl (Wn.plain rfl) rfl (Ex.call rfl rfl rfl (FnC.triC Tryz.call116 (c_flat _ _ _ hbm)) (by repeat constructor)) (.drop (by kernel_rfl) .nil) ?_
    rintro _ _ ⟨_, ⟨rfl, rfl⟩, rfl⟩; refine ⟨by repeat constructor, ?_⟩
    refine Aq (i := 7) rfl (Wn.plain rfl) rfl (fun _ => Yl.move rfl) ?_
    refine Aq (i := 8) rfl (Wn.plain rfl) rfl (fun _ => Yl.extract rfl (by repeat constructor)) ?_
    refine Aq (i := 9) rfl (Wn.plain rfl) rfl (fun _ => Yl.extract rfl (by repeat constructor)) ?_
    refine AW.step (i := 10) rfl (by kernel_rfl) (Wn.plain rfl) rfl (Ex.alloc Tryz.zeroValue37 (by constructor)) .nil ?_
    rintro _ _ ⟨b3, rfl, rfl⟩; refine ⟨by repeat constructor, ?_⟩
    refine AW.step (i := 11) rfl (by kernel_rfl) (Wn.plain rfl) rfl (Ex.store Tryz.sizeOf37 rfl rfl (by constructor) (by repeat constructor) rfl (by repeat constructor) (by repeat constructor)) .nil ?_
    rintro _ _ rfl; refine ⟨by repeat constructor, ?_⟩
    refine Aq (i := 12) rfl (Wn.plain rfl) rfl (fun _ => Yl.assign rfl) ?_
    refine AW.done (by kernel_rfl) ?_
    refine ⟨_, _, ?_, (Le.cons rfl (Le.cons rfl (Le.cons rfl (Le.cons rfl (Le.nil _))))), rfl, by repeat constructor, by repeat constructor⟩
    trivial
   ·refine AWi.step (i := 10) rfl (Wn.plain rfl) rfl (Ex.alloc Tryz.zeroValue37 (by constructor)) (.keep (by kernel_rfl) .nil) ?_
    rintro _ _ ⟨b4, rfl, rfl⟩; refine ⟨by repeat constructor, ?_⟩
    refine AW.step (i := 6) rfl (by kernel_rfl) (Wn.plain rfl) rfl (Ex.call rfl rfl rfl (FnC.triC Tryz.call116 (c_flat _ _ _ hbm)) (by repeat constructor)) (.drop (by kernel_rfl) .nil) ?_
    rintro _ _ ⟨_, ⟨rfl, rfl⟩, rfl⟩; refine ⟨by repeat constructor, ?_⟩
    refine Aq (i := 7) rfl (Wn.plain rfl) rfl (fun _ => Yl.move rfl) ?_
    refine Aq (i := 8) rfl (Wn.plain rfl) rfl (fun _ => Yl.extract rfl (by repeat constructor)) ?_
    refine Aq (i := 9) rfl (Wn.plain rfl) rfl (fun _ => Yl.extract rfl (by repeat constructor)) ?_
    refine AW.step (i := 11) rfl (by kernel_rfl) (Wn.plain rfl) rfl (Ex.store Tryz.sizeOf37 rfl rfl (by constructor) (by repeat constructor) rfl (by repeat constructor) (by repeat constructor)) .nil ?_
    rintro _ _ rfl; refine ⟨by repeat constructor, ?_⟩
    refine Aq (i := 12) rfl (Wn.plain rfl) rfl (fun _ => Yl.assign rfl) ?_
    refine AW.done (by kernel_rfl) ?_
    refine ⟨_, _, ?_, (Le.cons rfl (Le.cons rfl (Le.cons rfl (Le.cons rfl (Le.nil _))))), rfl, by repeat constructor, by repeat constructor⟩
    trivial
  ·refine AWi.step (i := 10) rfl (Wn.plain rfl) rfl (Ex.alloc Tryz.zeroValue37 (by constructor)) (.keep (by kernel_rfl) (.keep (by kernel_rfl) .nil)) ?_
   rintro _ _ ⟨b5, rfl, rfl⟩; refine ⟨by repeat constructor, ?_⟩
   refine AW.step (i := 5) rfl (by kernel_rfl) (Wn.plain rfl) rfl (Ex.call rfl rfl rfl (FnC.tri0 Tryz.call45 (c_wbands l _ _ eps (by omega) hok he)) (by repeat constructor)) (.drop (by kernel_rfl) (.keep (by kernel_rfl) .nil)) ?_
   rintro _ _ ⟨_, ⟨ba, bc, rfl, rfl⟩, rfl⟩; refine ⟨by repeat constructor, ?_⟩
   refine AW.step (i := 6) rfl (by kernel_rfl) (Wn.plain rfl) rfl (Ex.call rfl rfl rfl (FnC.triC Tryz.call116 (c_flat _ _ _ hbm)) (by repeat constructor)) (.drop (by kernel_rfl) .nil) ?_
   rintro _ _ ⟨_, ⟨rfl, rfl⟩, rfl⟩; refine ⟨by repeat constructor, ?_⟩
   refine Aq (i := 7) rfl (Wn.plain rfl) rfl (fun _ => Yl.move rfl) ?_
   refine Aq (i := 8) rfl (Wn.plain rfl) rfl (fun _ => Yl.extract rfl (by repeat constructor)) ?_
   refine Aq (i := 9) rfl (Wn.plain rfl) rfl (fun _ => Yl.extract rfl (by repeat constructor)) ?_
   refine AW.step (i := 11) rfl (by kernel_rfl) (Wn.plain rfl) rfl (Ex.store Tryz.sizeOf37 rfl rfl (by constructor) (by repeat constructor) rfl (by repeat constructor) (by repeat constructor)) .nil ?_
   rintro _ _ rfl; refine ⟨by repeat constructor, ?_⟩
   refine Aq (i := 12) rfl (Wn.plain rfl) rfl (fun _ => Yl.assign rfl) ?_
   refine AW.done (by kernel_rfl) ?_
   refine ⟨_, _, ?_, (Le.cons rfl (Le.cons rfl (Le.cons rfl (Le.cons rfl (Le.nil _))))), rfl, by repeat constructor, by repeat constructor⟩
   trivial
 ·rintro bx hcut
  show W _ _ _ _ _ _ ([(10, .pointer (some ⟨bx, 0, none⟩))] ++ _) _ ([.cell bx (encL (flatL (l.map (bandP eps)))) 37] ++ _)
  refine Wr ?_
  refine Oy rfl (Yl.move rfl) ?_
  refine Oy rfl (Yl.load ⟨Tryz.isAgg37, Tryz.sizeOf37⟩ rfl (by repeat constructor) (by repeat constructor)) ?_
  refine OW.call (Wn.plain rfl) rfl rfl rfl (FnC.tri0 Tryz.call126 (c_gOf (runsP l) (flatL (l.map (bandP eps))) 0 _ _)) (by repeat constructor) ?_
  rintro _ _ ⟨xb, rfl, rfl⟩
  refine Oy rfl (Yl.move rfl) ?_
  refine Oy rfl (Yl.extract rfl (by repeat constructor)) ?_
  refine Oy rfl (Yl.extract rfl (by repeat constructor)) ?_
  refine OW.alloc (Wn.plain rfl) rfl Tryz.zeroValue53 (by constructor) (fun b6 => ?_)
  refine OW.store (Wn.plain rfl) Tryz.sizeOf53 rfl rfl (by constructor) (by repeat constructor) rfl (by repeat constructor) (by repeat constructor) ?_
  refine Oy rfl (Yl.assign rfl) ?_
  refine OW.nil ?_
  refine Wr ?_
  refine Oy rfl (Yl.load ⟨Tryz.isAgg53, Tryz.sizeOf53⟩ rfl (by repeat constructor) (by repeat constructor)) ?_
  refine Oy rfl (Yl.move rfl) ?_
  refine OW.call (Wn.plain rfl) rfl rfl rfl (FnC.tri0 Tryz.call113 (c_Far (linG (flatL (l.map (bandP eps))) l) xb l _ _)) (by repeat constructor) ?_
  rintro _ _ ⟨rfl, rfl⟩
  refine Oy rfl (Yl.move rfl) ?_
  refine Oy rfl (Yl.extract rfl (by repeat constructor)) ?_
  refine Oy rfl (Yl.extract rfl (by repeat constructor)) ?_
  refine Oy rfl (Yl.fieldL 7 (fa_53_4) rfl rfl) ?_
  refine OW.store (Wn.plain rfl) Tryz.sizeOf2 rfl rfl (by constructor) (by repeat constructor) rfl (by repeat constructor) (by repeat constructor) ?_
  refine OW.nil ?_
  refine Wr ?_
  refine Oy rfl (Yl.load ⟨Tryz.isAgg53, Tryz.sizeOf53⟩ rfl (by repeat constructor) (by repeat constructor)) ?_
  refine OW.store (Wn.plain rfl) Tryz.sizeOf53 rfl rfl (by constructor) (by repeat constructor) rfl (by repeat constructor) (by repeat constructor) ?_
  refine OW.nil ?_
  refine W.ret ?_
  exact Fin.mk (Rsl.of1 rfl (.cell ⟨Tryz.isAgg53, Tryz.sizeOf53⟩ rfl (by repeat constructor) (by repeat constructor))) ⟨xb, rfl, rfl⟩ (by repeat constructor) (by repeat constructor)
theorem c_wofL2 (l : List Pt) (a : Option Addr) (c : Nat) (eps : Int) (ma : Option Addr) (mn mc : Nat) (hp : pointsM l = true) (he : 0 ≤ eps ∧ eps ≤ 1099511627776) : FnC Tryz.prog 75 #[.agg [.slice ma mn mc, .int .i64 eps, .func (.func 118) #[] #[]].toArray, .slice a l.length c] [rowI 2 encT l a c] (RetSg (ofL (sfitL (l.map (bandP eps))) l)) := by
 refine FnC.go (m := 56) Tryz.func75 Tryz.ntmps75 rfl (Nat.le_of_ble_eq_true rfl) (fun Lf => ?_)
 have hl := pts_len hp
 have hok := pts_ok hp
 have ht := times_of hp
 have hbm := bands_of hp he
 refine Wr ?_
 refine OW.box (Wn.plain rfl) rfl rfl (by constructor) (fun b1 => ?_)
 refine OW.alloc (Wn.plain rfl) rfl Tryz.zeroValue53 (by constructor) (fun b2 => ?_)
 refine OW.nil ?_
 refine Wr ?_
 refine Oy rfl (Yl.move rfl) ?_
 refine OW.call (Wn.plain rfl) rfl rfl rfl (FnC.tri0 Tryz.call121 (c_wallT l _ _ (by omega))) (by repeat constructor) ?_
 rintro _ _ ⟨ta, tc, rfl, rfl⟩
 refine Oy rfl (Yl.assign rfl) ?_
 refine OW.nil ?_
 refine Wr ?_
 refine Oy rfl (Yl.move rfl) ?_
 refine OW.call (Wn.plain rfl) rfl rfl rfl (FnC.tri0 Tryz.call123 (c_rOf_ok _ _ _ ht)) (by repeat constructor) ?_
 rintro _ _ ⟨ra, rc, rfl, rfl⟩
 refine Oy rfl (Yl.move rfl) ?_
 refine Oy rfl (Yl.extract rfl (by repeat constructor)) ?_
 refine Oy rfl (Yl.extract rfl (by repeat constructor)) ?_
 refine Oy rfl (Yl.assign rfl) ?_
 refine Oy rfl (Yl.assign rfl) ?_
 refine OW.nil ?_
 refine W.seq ?_
 refine Wr ?_
 refine Oy rfl (Yl.fieldL 2 (fa_129_2) rfl rfl) ?_
 refine Oy rfl (Yl.load1 Tryz.isAgg121 rfl (by repeat constructor) (by repeat constructor)) ?_
 refine Oy rfl (Yl.eqnilF Tryz.underlying121 rfl) ?_
 refine OW.nil ?_
 refine W.cond_false rfl ?_
 refine W.skip ?_
 refine W.seqS (X := (Nat)) (R0 := []) (fun (bx : (Nat)) => (True : Prop)) (fun (bx : (Nat)) => ([(10, .pointer (some ⟨bx, 0, none⟩))] : Env)) (fun (bx : (Nat)) => ([.cell bx (encL (sfitL (l.map (bandP eps)))) 37] : List Res)) [(1, _), (4, _), (6, _)] (Le.cons rfl (Le.cons rfl (Le.cons rfl (Le.nil _)))) (by repeat constructor) ?_ ?_
 ·refine W.draw mixed ?_
  refine Aq (i := 0) rfl (Wn.plain rfl) rfl (fun _ => Yl.fieldL 2 (fa_129_2) rfl rfl) ?_
  refine Al (i := 1) rfl (Wn.plain rfl) rfl (by repeat constructor) (Yl.load1 Tryz.isAgg121 rfl .head (by repeat constructor)) ?_
  refine Aq (i := 2) rfl (Wn.plain rfl) rfl (fun _ => Yl.move rfl) ?_
  refine Aq (i := 3) rfl (Wn.plain rfl) rfl (fun _ => Yl.fieldL 1 (fa_129_1) rfl rfl) ?_
  refine Al (i := 4) rfl (Wn.plain rfl) rfl (by repeat constructor) (Yl.load1 Tryz.isAgg2 rfl .head (by repeat constructor)) ?_
  refine AW.two 5 10 (by kernel_rfl) ?_ ?_
  ·refine AWi.step (i := 5) rfl (Wn.plain rfl) rfl (Ex.call rfl rfl rfl (FnC.tri0 Tryz.call45 (c_wbands l _ _ eps (by omega) hok he)) (by repeat constructor)) (.drop (by kernel_rfl) (.keep (by kernel_rfl) .nil)) ?_
   rintro _ _ ⟨_, ⟨ba, bc, rfl, rfl⟩, rfl⟩; refine ⟨by repeat constructor, ?_⟩
   refine AW.two 6 10 (by kernel_rfl) ?_ ?_
   ·refine AWi.step (i := 6) rfl (Wn.plain rfl) rfl (Ex.call rfl rfl rfl (FnC.triC Tryz.call118 (c_sFit _ _ _ hbm)) (by repeat constructor)) (.drop (by kernel_rfl) .nil) ?_
    rintro _ _ ⟨_, ⟨rfl, rfl⟩, rfl⟩; refine ⟨by repeat constructor, ?_⟩
    refine Aq (i := 7) rfl (Wn.plain rfl) rfl (fun _ => Yl.move rfl) ?_
    refine Aq (i := 8) rfl (Wn.plain rfl) rfl (fun _ => Yl.extract rfl (by repeat constructor)) ?_
    refine Aq (i := 9) rfl (Wn.plain rfl) rfl (fun _ => Yl.extract rfl (by repeat constructor)) ?_
    refine AW.step (i := 10) rfl (by kernel_rfl) (Wn.plain rfl) rfl (Ex.alloc Tryz.zeroValue37 (by constructor)) .nil ?_
    rintro _ _ ⟨b3, rfl, rfl⟩; refine ⟨by repeat constructor, ?_⟩
    refine AW.step (i := 11) rfl (by kernel_rfl) (Wn.plain rfl) rfl (Ex.store Tryz.sizeOf37 rfl rfl (by constructor) (by repeat constructor) rfl (by repeat constructor) (by repeat constructor)) .nil ?_
    rintro _ _ rfl; refine ⟨by repeat constructor, ?_⟩
    refine Aq (i := 12) rfl (Wn.plain rfl) rfl (fun _ => Yl.assign rfl) ?_
    refine AW.done (by kernel_rfl) ?_
    refine ⟨_, _, ?_, (Le.cons rfl (Le.cons rfl (Le.cons rfl (Le.cons rfl (Le.nil _))))), rfl, by repeat constructor, by repeat constructor⟩
    trivial
   ·refine AWi.step (i := 10) rfl (Wn.plain rfl) rfl (Ex.alloc Tryz.zeroValue37 (by constructor)) (.keep (by kernel_rfl) .nil) ?_
    rintro _ _ ⟨b4, rfl, rfl⟩; refine ⟨by repeat constructor, ?_⟩
    refine AW.step (i := 6) rfl (by kernel_rfl) (Wn.plain rfl) rfl (Ex.call rfl rfl rfl (FnC.triC Tryz.call118 (c_sFit _ _ _ hbm)) (by repeat constructor)) (.drop (by kernel_rfl) .nil) ?_
    rintro _ _ ⟨_, ⟨rfl, rfl⟩, rfl⟩; refine ⟨by repeat constructor, ?_⟩
    refine Aq (i := 7) rfl (Wn.plain rfl) rfl (fun _ => Yl.move rfl) ?_
    refine Aq (i := 8) rfl (Wn.plain rfl) rfl (fun _ => Yl.extract rfl (by repeat constructor)) ?_
    refine Aq (i := 9) rfl (Wn.plain rfl) rfl (fun _ => Yl.extract rfl (by repeat constructor)) ?_
    refine AW.step (i := 11) rfl (by kernel_rfl) (Wn.plain rfl) rfl (Ex.store Tryz.sizeOf37 rfl rfl (by constructor) (by repeat constructor) rfl (by repeat constructor) (by repeat constructor)) .nil ?_
    rintro _ _ rfl; refine ⟨by repeat constructor, ?_⟩
    refine Aq (i := 12) rfl (Wn.plain rfl) rfl (fun _ => Yl.assign rfl) ?_
    refine AW.done (by kernel_rfl) ?_
    refine ⟨_, _, ?_, (Le.cons rfl (Le.cons rfl (Le.cons rfl (Le.cons rfl (Le.nil _))))), rfl, by repeat constructor, by repeat constructor⟩
    trivial
  ·refine AWi.step (i := 10) rfl (Wn.plain rfl) rfl (Ex.alloc Tryz.zeroValue37 (by constructor)) (.keep (by kernel_rfl) (.keep (by kernel_rfl) .nil)) ?_
   rintro _ _ ⟨b5, rfl, rfl⟩; refine ⟨by repeat constructor, ?_⟩
   refine AW.step (i := 5) rfl (by kernel_rfl) (Wn.plain rfl) rfl (Ex.call rfl rfl rfl (FnC.tri0 Tryz.call45 (c_wbands l _ _ eps (by omega) hok he)) (by repeat constructor)) (.drop (by kernel_rfl) (.keep (by kernel_rfl) .nil)) ?_
   rintro _ _ ⟨_, ⟨ba, bc, rfl, rfl⟩, rfl⟩; refine ⟨by repeat constructor, ?_⟩
   refine AW.step (i := 6) rfl (by kernel_rfl) (Wn.plain rfl) rfl (Ex.call rfl rfl rfl (FnC.triC Tryz.call118 (c_sFit _ _ _ hbm)) (by repeat constructor)) (.drop (by kernel_rfl) .nil) ?_
   rintro _ _ ⟨_, ⟨rfl, rfl⟩, rfl⟩; refine ⟨by repeat constructor, ?_⟩
   refine Aq (i := 7) rfl (Wn.plain rfl) rfl (fun _ => Yl.move rfl) ?_
   refine Aq (i := 8) rfl (Wn.plain rfl) rfl (fun _ => Yl.extract rfl (by repeat constructor)) ?_
   refine Aq (i := 9) rfl (Wn.plain rfl) rfl (fun _ => Yl.extract rfl (by repeat constructor)) ?_
   refine AW.step (i := 11) rfl (by kernel_rfl) (Wn.plain rfl) rfl (Ex.store Tryz.sizeOf37 rfl rfl (by constructor) (by repeat constructor) rfl (by repeat constructor) (by repeat constructor)) .nil ?_
   rintro _ _ rfl; refine ⟨by repeat constructor, ?_⟩
   refine Aq (i := 12) rfl (Wn.plain rfl) rfl (fun _ => Yl.assign rfl) ?_
   refine AW.done (by kernel_rfl) ?_
   refine ⟨_, _, ?_, (Le.cons rfl (Le.cons rfl (Le.cons rfl (Le.cons rfl (Le.nil _))))), rfl, by repeat constructor, by repeat constructor⟩
   trivial
 ·rintro bx hcut
  show W _ _ _ _ _ _ ([(10, .pointer (some ⟨bx, 0, none⟩))] ++ _) _ ([.cell bx (encL (sfitL (l.map (bandP eps)))) 37] ++ _)
  refine Wr ?_
  refine Oy rfl (Yl.move rfl) ?_
  refine Oy rfl (Yl.load ⟨Tryz.isAgg37, Tryz.sizeOf37⟩ rfl (by repeat constructor) (by repeat constructor)) ?_
  refine OW.call (Wn.plain rfl) rfl rfl rfl (FnC.tri0 Tryz.call126 (c_gOf (runsP l) (sfitL (l.map (bandP eps))) 0 _ _)) (by repeat constructor) ?_
  rintro _ _ ⟨xb, rfl, rfl⟩
  refine Oy rfl (Yl.move rfl) ?_
  refine Oy rfl (Yl.extract rfl (by repeat constructor)) ?_
  refine Oy rfl (Yl.extract rfl (by repeat constructor)) ?_
  refine OW.alloc (Wn.plain rfl) rfl Tryz.zeroValue53 (by constructor) (fun b6 => ?_)
  refine OW.store (Wn.plain rfl) Tryz.sizeOf53 rfl rfl (by constructor) (by repeat constructor) rfl (by repeat constructor) (by repeat constructor) ?_
  refine Oy rfl (Yl.assign rfl) ?_
  refine OW.nil ?_
  refine Wr ?_
  refine Oy rfl (Yl.load ⟨Tryz.isAgg53, Tryz.sizeOf53⟩ rfl (by repeat constructor) (by repeat constructor)) ?_
  refine Oy rfl (Yl.move rfl) ?_
  refine OW.call (Wn.plain rfl) rfl rfl rfl (FnC.tri0 Tryz.call113 (c_Far (linG (sfitL (l.map (bandP eps))) l) xb l _ _)) (by repeat constructor) ?_
  rintro _ _ ⟨rfl, rfl⟩
  refine Oy rfl (Yl.move rfl) ?_
  refine Oy rfl (Yl.extract rfl (by repeat constructor)) ?_
  refine Oy rfl (Yl.extract rfl (by repeat constructor)) ?_
  refine Oy rfl (Yl.fieldL 7 (fa_53_4) rfl rfl) ?_
  refine OW.store (Wn.plain rfl) Tryz.sizeOf2 rfl rfl (by constructor) (by repeat constructor) rfl (by repeat constructor) (by repeat constructor) ?_
  refine OW.nil ?_
  refine Wr ?_
  refine Oy rfl (Yl.load ⟨Tryz.isAgg53, Tryz.sizeOf53⟩ rfl (by repeat constructor) (by repeat constructor)) ?_
  refine OW.store (Wn.plain rfl) Tryz.sizeOf53 rfl rfl (by constructor) (by repeat constructor) rfl (by repeat constructor) (by repeat constructor) ?_
  refine OW.nil ?_
  refine W.ret ?_
  exact Fin.mk (Rsl.of1 rfl (.cell ⟨Tryz.isAgg53, Tryz.sizeOf53⟩ rfl (by repeat constructor) (by repeat constructor))) ⟨xb, rfl, rfl⟩ (by repeat constructor) (by repeat constructor)
theorem c_wofL3 (l : List Pt) (a : Option Addr) (c : Nat) (eps : Int) (ma : Option Addr) (mn mc : Nat) (hp : pointsM l = true) (he : 0 ≤ eps ∧ eps ≤ 1099511627776) : FnC Tryz.prog 75 #[.agg [.slice ma mn mc, .int .i64 eps, .func (.func 120) #[] #[]].toArray, .slice a l.length c] [rowI 2 encT l a c, glob0] (RetSg (ofL (lFitL (l.map (bandP eps))) l)) := by
 refine FnC.go (m := 56) Tryz.func75 Tryz.ntmps75 rfl (Nat.le_of_ble_eq_true rfl) (fun Lf => ?_)
 have hl := pts_len hp
 have hok := pts_ok hp
 have ht := times_of hp
 have hbm := bands_of hp he
 refine Wr ?_
 refine OW.box (Wn.plain rfl) rfl rfl (by constructor) (fun b1 => ?_)
 refine OW.alloc (Wn.plain rfl) rfl Tryz.zeroValue53 (by constructor) (fun b2 => ?_)
 refine OW.nil ?_
 refine Wr ?_
 refine Oy rfl (Yl.move rfl) ?_
 refine OW.call (Wn.plain rfl) rfl rfl rfl (FnC.tri0 Tryz.call121 (c_wallT l _ _ (by omega))) (by repeat constructor) ?_
 rintro _ _ ⟨ta, tc, rfl, rfl⟩
 refine Oy rfl (Yl.assign rfl) ?_
 refine OW.nil ?_
 refine Wr ?_
 refine Oy rfl (Yl.move rfl) ?_
 refine OW.call (Wn.plain rfl) rfl rfl rfl (FnC.tri0 Tryz.call123 (c_rOf_ok _ _ _ ht)) (by repeat constructor) ?_
 rintro _ _ ⟨ra, rc, rfl, rfl⟩
 refine Oy rfl (Yl.move rfl) ?_
 refine Oy rfl (Yl.extract rfl (by repeat constructor)) ?_
 refine Oy rfl (Yl.extract rfl (by repeat constructor)) ?_
 refine Oy rfl (Yl.assign rfl) ?_
 refine Oy rfl (Yl.assign rfl) ?_
 refine OW.nil ?_
 refine W.seq ?_
 refine Wr ?_
 refine Oy rfl (Yl.fieldL 2 (fa_129_2) rfl rfl) ?_
 refine Oy rfl (Yl.load1 Tryz.isAgg121 rfl (by repeat constructor) (by repeat constructor)) ?_
 refine Oy rfl (Yl.eqnilF Tryz.underlying121 rfl) ?_
 refine OW.nil ?_
 refine W.cond_false rfl ?_
 refine W.skip ?_
 refine W.seqS (X := (Nat)) (R0 := []) (fun (bx : (Nat)) => (True : Prop)) (fun (bx : (Nat)) => ([(10, .pointer (some ⟨bx, 0, none⟩))] : Env)) (fun (bx : (Nat)) => ([.cell bx (encL (lFitL (l.map (bandP eps)))) 37] : List Res)) [(1, _), (4, _), (6, _)] (Le.cons rfl (Le.cons rfl (Le.cons rfl (Le.nil _)))) (by repeat constructor) ?_ ?_
 ·refine W.draw mixed ?_
  refine Aq (i := 0) rfl (Wn.plain rfl) rfl (fun _ => Yl.fieldL 2 (fa_129_2) rfl rfl) ?_
  refine Al (i := 1) rfl (Wn.plain rfl) rfl (by repeat constructor) (Yl.load1 Tryz.isAgg121 rfl .head (by repeat constructor)) ?_
  refine Aq (i := 2) rfl (Wn.plain rfl) rfl (fun _ => Yl.move rfl) ?_
  refine Aq (i := 3) rfl (Wn.plain rfl) rfl (fun _ => Yl.fieldL 1 (fa_129_1) rfl rfl) ?_
  refine Al (i := 4) rfl (Wn.plain rfl) rfl (by repeat constructor) (Yl.load1 Tryz.isAgg2 rfl .head (by repeat constructor)) ?_
  refine AW.two 5 10 (by kernel_rfl) ?_ ?_
  ·refine AWi.step (i := 5) rfl (Wn.plain rfl) rfl (Ex.call rfl rfl rfl (FnC.tri0 Tryz.call45 (c_wbands l _ _ eps (by omega) hok he)) (by repeat constructor)) (.drop (by kernel_rfl) (.keep (by kernel_rfl) .nil)) ?_
   rintro _ _ ⟨_, ⟨ba, bc, rfl, rfl⟩, rfl⟩; refine ⟨by repeat constructor, ?_⟩
   refine AW.two 6 10 (by kernel_rfl) ?_ ?_
   ·refine AWi.step (i := 6) rfl (Wn.plain rfl) rfl (Ex.call rfl rfl rfl (FnC.triC Tryz.call120 (c_lFit _ _ _ hbm)) (by repeat constructor)) (.drop (by kernel_rfl) .nil) ?_
    rintro _ _ ⟨_, ⟨rfl, rfl⟩, rfl⟩; refine ⟨by repeat constructor, ?_⟩
    refine Aq (i := 7) rfl (Wn.plain rfl) rfl (fun _ => Yl.move rfl) ?_
    refine Aq (i := 8) rfl (Wn.plain rfl) rfl (fun _ => Yl.extract rfl (by repeat constructor)) ?_
    refine Aq (i := 9) rfl (Wn.plain rfl) rfl (fun _ => Yl.extract rfl (by repeat constructor)) ?_
    refine AW.step (i := 10) rfl (by kernel_rfl) (Wn.plain rfl) rfl (Ex.alloc Tryz.zeroValue37 (by constructor)) .nil ?_
    rintro _ _ ⟨b3, rfl, rfl⟩; refine ⟨by repeat constructor, ?_⟩
    refine AW.step (i := 11) rfl (by kernel_rfl) (Wn.plain rfl) rfl (Ex.store Tryz.sizeOf37 rfl rfl (by constructor) (by repeat constructor) rfl (by repeat constructor) (by repeat constructor)) .nil ?_
    rintro _ _ rfl; refine ⟨by repeat constructor, ?_⟩
    refine Aq (i := 12) rfl (Wn.plain rfl) rfl (fun _ => Yl.assign rfl) ?_
    refine AW.done (by kernel_rfl) ?_
    refine ⟨_, _, ?_, (Le.cons rfl (Le.cons rfl (Le.cons rfl (Le.cons rfl (Le.nil _))))), rfl, by repeat constructor, by repeat constructor⟩
    trivial
   ·refine AWi.step (i := 10) rfl (Wn.plain rfl) rfl (Ex.alloc Tryz.zeroValue37 (by constructor)) (.keep (by kernel_rfl) .nil) ?_
    rintro _ _ ⟨b4, rfl, rfl⟩; refine ⟨by repeat constructor, ?_⟩
    refine AW.step (i := 6) rfl (by kernel_rfl) (Wn.plain rfl) rfl (Ex.call rfl rfl rfl (FnC.triC Tryz.call120 (c_lFit _ _ _ hbm)) (by repeat constructor)) (.drop (by kernel_rfl) .nil) ?_
    rintro _ _ ⟨_, ⟨rfl, rfl⟩, rfl⟩; refine ⟨by repeat constructor, ?_⟩
    refine Aq (i := 7) rfl (Wn.plain rfl) rfl (fun _ => Yl.move rfl) ?_
    refine Aq (i := 8) rfl (Wn.plain rfl) rfl (fun _ => Yl.extract rfl (by repeat constructor)) ?_
    refine Aq (i := 9) rfl (Wn.plain rfl) rfl (fun _ => Yl.extract rfl (by repeat constructor)) ?_
    refine AW.step (i := 11) rfl (by kernel_rfl) (Wn.plain rfl) rfl (Ex.store Tryz.sizeOf37 rfl rfl (by constructor) (by repeat constructor) rfl (by repeat constructor) (by repeat constructor)) .nil ?_
    rintro _ _ rfl; refine ⟨by repeat constructor, ?_⟩
    refine Aq (i := 12) rfl (Wn.plain rfl) rfl (fun _ => Yl.assign rfl) ?_
    refine AW.done (by kernel_rfl) ?_
    refine ⟨_, _, ?_, (Le.cons rfl (Le.cons rfl (Le.cons rfl (Le.cons rfl (Le.nil _))))), rfl, by repeat constructor, by repeat constructor⟩
    trivial
  ·refine AWi.step (i := 10) rfl (Wn.plain rfl) rfl (Ex.alloc Tryz.zeroValue37 (by constructor)) (.keep (by kernel_rfl) (.keep (by kernel_rfl) .nil)) ?_
   rintro _ _ ⟨b5, rfl, rfl⟩; refine ⟨by repeat constructor, ?_⟩
   refine AW.step (i := 5) rfl (by kernel_rfl) (Wn.plain rfl) rfl (Ex.call rfl rfl rfl (FnC.tri0 Tryz.call45 (c_wbands l _ _ eps (by omega) hok he)) (by repeat constructor)) (.drop (by kernel_rfl) (.keep (by kernel_rfl) .nil)) ?_
   rintro _ _ ⟨_, ⟨ba, bc, rfl, rfl⟩, rfl⟩; refine ⟨by repeat constructor, ?_⟩
   refine AW.step (i := 6) rfl (by kernel_rfl) (Wn.plain rfl) rfl (Ex.call rfl rfl rfl (FnC.triC Tryz.call120 (c_lFit _ _ _ hbm)) (by repeat constructor)) (.drop (by kernel_rfl) .nil) ?_
   rintro _ _ ⟨_, ⟨rfl, rfl⟩, rfl⟩; refine ⟨by repeat constructor, ?_⟩
   refine Aq (i := 7) rfl (Wn.plain rfl) rfl (fun _ => Yl.move rfl) ?_
   refine Aq (i := 8) rfl (Wn.plain rfl) rfl (fun _ => Yl.extract rfl (by repeat constructor)) ?_
   refine Aq (i := 9) rfl (Wn.plain rfl) rfl (fun _ => Yl.extract rfl (by repeat constructor)) ?_
   refine AW.step (i := 11) rfl (by kernel_rfl) (Wn.plain rfl) rfl (Ex.store Tryz.sizeOf37 rfl rfl (by constructor) (by repeat constructor) rfl (by repeat constructor) (by repeat constructor)) .nil ?_
   rintro _ _ rfl; refine ⟨by repeat constructor, ?_⟩
   refine Aq (i := 12) rfl (Wn.plain rfl) rfl (fun _ => Yl.assign rfl) ?_
   refine AW.done (by kernel_rfl) ?_
   refine ⟨_, _, ?_, (Le.cons rfl (Le.cons rfl (Le.cons rfl (Le.cons rfl (Le.nil _))))), rfl, by repeat constructor, by repeat constructor⟩
   trivial
 ·rintro bx hcut
  show W _ _ _ _ _ _ ([(10, .pointer (some ⟨bx, 0, none⟩))] ++ _) _ ([.cell bx (encL (lFitL (l.map (bandP eps)))) 37] ++ _)
  refine Wr ?_
  refine Oy rfl (Yl.move rfl) ?_
  refine Oy rfl (Yl.load ⟨Tryz.isAgg37, Tryz.sizeOf37⟩ rfl (by repeat constructor) (by repeat constructor)) ?_
  refine OW.call (Wn.plain rfl) rfl rfl rfl (FnC.tri0 Tryz.call126 (c_gOf (runsP l) (lFitL (l.map (bandP eps))) 0 _ _)) (by repeat constructor) ?_
  rintro _ _ ⟨xb, rfl, rfl⟩
  refine Oy rfl (Yl.move rfl) ?_
  refine Oy rfl (Yl.extract rfl (by repeat constructor)) ?_
  refine Oy rfl (Yl.extract rfl (by repeat constructor)) ?_
  refine OW.alloc (Wn.plain rfl) rfl Tryz.zeroValue53 (by constructor) (fun b6 => ?_)
  refine OW.store (Wn.plain rfl) Tryz.sizeOf53 rfl rfl (by constructor) (by repeat constructor) rfl (by repeat constructor) (by repeat constructor) ?_
  refine Oy rfl (Yl.assign rfl) ?_
  refine OW.nil ?_
  refine Wr ?_
  refine Oy rfl (Yl.load ⟨Tryz.isAgg53, Tryz.sizeOf53⟩ rfl (by repeat constructor) (by repeat constructor)) ?_
  refine Oy rfl (Yl.move rfl) ?_
  refine OW.call (Wn.plain rfl) rfl rfl rfl (FnC.tri0 Tryz.call113 (c_Far (linG (lFitL (l.map (bandP eps))) l) xb l _ _)) (by repeat constructor) ?_
  rintro _ _ ⟨rfl, rfl⟩
  refine Oy rfl (Yl.move rfl) ?_
  refine Oy rfl (Yl.extract rfl (by repeat constructor)) ?_
  refine Oy rfl (Yl.extract rfl (by repeat constructor)) ?_
  refine Oy rfl (Yl.fieldL 7 (fa_53_4) rfl rfl) ?_
  refine OW.store (Wn.plain rfl) Tryz.sizeOf2 rfl rfl (by constructor) (by repeat constructor) rfl (by repeat constructor) (by repeat constructor) ?_
  refine OW.nil ?_
  refine Wr ?_
  refine Oy rfl (Yl.load ⟨Tryz.isAgg53, Tryz.sizeOf53⟩ rfl (by repeat constructor) (by repeat constructor)) ?_
  refine OW.store (Wn.plain rfl) Tryz.sizeOf53 rfl rfl (by constructor) (by repeat constructor) rfl (by repeat constructor) (by repeat constructor) ?_
  refine OW.nil ?_
  refine W.ret ?_
  exact Fin.mk (Rsl.of1 rfl (.cell ⟨Tryz.isAgg53, Tryz.sizeOf53⟩ rfl (by repeat constructor) (by repeat constructor))) ⟨xb, rfl, rfl⟩ (by repeat constructor) (by repeat constructor)
theorem c_wofR (l : List Pt) (a : Option Addr) (c : Nat) (eps : Int) (ma : Option Addr) (mn mc : Nat) (hp : pointsM l = true) (he : 0 ≤ eps ∧ eps ≤ 1099511627776) : FnC Tryz.prog 75 #[.agg [.slice ma mn mc, .int .i64 eps, .nilFunc].toArray, .slice a l.length c] [rowI 2 encT l a c] (RetSg (ofR l)) := by
 refine FnC.go (m := 56) Tryz.func75 Tryz.ntmps75 rfl (Nat.le_of_ble_eq_true rfl) (fun Lf => ?_)
 have hl := pts_len hp
 have hok := pts_ok hp
 have ht := times_of hp
 have hbm := bands_of hp he
 refine Wr ?_
 refine OW.box (Wn.plain rfl) rfl rfl (by constructor) (fun b1 => ?_)
 refine OW.alloc (Wn.plain rfl) rfl Tryz.zeroValue53 (by constructor) (fun b2 => ?_)
 refine OW.nil ?_
 refine Wr ?_
 refine Oy rfl (Yl.move rfl) ?_
 refine OW.call (Wn.plain rfl) rfl rfl rfl (FnC.tri0 Tryz.call121 (c_wallT l _ _ (by omega))) (by repeat constructor) ?_
 rintro _ _ ⟨ta, tc, rfl, rfl⟩
 refine Oy rfl (Yl.assign rfl) ?_
 refine OW.nil ?_
 refine Wr ?_
 refine Oy rfl (Yl.move rfl) ?_
 refine OW.call (Wn.plain rfl) rfl rfl rfl (FnC.tri0 Tryz.call123 (c_rOf_ok _ _ _ ht)) (by repeat constructor) ?_
 rintro _ _ ⟨ra, rc, rfl, rfl⟩
 refine Oy rfl (Yl.move rfl) ?_
 refine Oy rfl (Yl.extract rfl (by repeat constructor)) ?_
 refine Oy rfl (Yl.extract rfl (by repeat constructor)) ?_
 refine Oy rfl (Yl.assign rfl) ?_
 refine Oy rfl (Yl.assign rfl) ?_
 refine OW.nil ?_
 refine W.seq ?_
 refine Wr ?_
 refine Oy rfl (Yl.fieldL 2 (fa_129_2) rfl rfl) ?_
 refine Oy rfl (Yl.load1 Tryz.isAgg121 rfl (by repeat constructor) (by repeat constructor)) ?_
 refine Oy rfl (Yl.eqnilN Tryz.underlying121 rfl) ?_
 refine OW.nil ?_
 refine W.cond_true rfl ?_
 refine Wr ?_
 refine Oy rfl (Yl.move rfl) ?_
 refine Oy rfl (Yl.move rfl) ?_
 refine OW.call (Wn.plain rfl) rfl rfl rfl (FnC.tri0 Tryz.call121 (c_wallV l _ _ (by omega))) (by repeat constructor) ?_
 rintro _ _ ⟨va, vc, rfl, rfl⟩
 refine OW.call (Wn.plain rfl) rfl rfl rfl (FnC.tri0 Tryz.call124 (c_gRaw (runsP l) (l.map Pt.V) 0 _ _ _ _)) (by repeat constructor) ?_
 rintro _ _ ⟨xb, rfl, rfl⟩
 refine Oy rfl (Yl.move rfl) ?_
 refine Oy rfl (Yl.extract rfl (by repeat constructor)) ?_
 refine Oy rfl (Yl.extract rfl (by repeat constructor)) ?_
 refine OW.alloc (Wn.plain rfl) rfl Tryz.zeroValue53 (by constructor) (fun b3 => ?_)
 refine OW.store (Wn.plain rfl) Tryz.sizeOf53 rfl rfl (by constructor) (by repeat constructor) rfl (by repeat constructor) (by repeat constructor) ?_
 refine Oy rfl (Yl.assign rfl) ?_
 refine OW.nil ?_
 refine Wr ?_
 refine Oy rfl (Yl.load ⟨Tryz.isAgg53, Tryz.sizeOf53⟩ rfl (by repeat constructor) (by repeat constructor)) ?_
 refine OW.store (Wn.plain rfl) Tryz.sizeOf53 rfl rfl (by constructor) (by repeat constructor) rfl (by repeat constructor) (by repeat constructor) ?_
 refine OW.nil ?_
 refine W.ret ?_
 exact Fin.mk (Rsl.of1 rfl (.cell ⟨Tryz.isAgg53, Tryz.sizeOf53⟩ rfl (by repeat constructor) (by repeat constructor))) ⟨xb, rfl, rfl⟩ (by repeat constructor) (by repeat constructor)
end Go.Yb
