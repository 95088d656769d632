/-
  A part of the proof of windowLine_holds: see the text that holds it. No conditions of its own.
-/
import Derived.Test.YtbfhhinhjgdgpaaGreatDoorWin2
namespace Go.Yb
open Go Go.Proofs Go.RowKit

def partsM : List Pt → List Nat → List (List Pt)
  | _, [] => []
  | l, n :: ns => l.take n :: partsM (l.drop n) ns
def sumN : List Nat → Nat
  | [] => 0
  | n :: ns => n + sumN ns
theorem sumN_app : ∀ (a b : List Nat), sumN (a ++ b) = sumN a + sumN b
  | [], b => by simp [sumN]
  | x :: a, b => by simp only [List.cons_append, sumN, sumN_app a b]; omega
theorem sumN_at {cs : List Nat} {i n : Nat} (h : cs[i]? = some n) : sumN (cs.take (i + 1)) = sumN (cs.take i) + n ∧ sumN (cs.take i) + n ≤ sumN cs := by
 have e := take_at h
 refine ⟨by rw [e, sumN_app]; simp [sumN], ?_⟩
 have h2 : sumN cs = sumN (cs.take (i + 1)) + sumN (cs.drop (i + 1)) := by rw [← sumN_app, List.take_append_drop]
 rw [e, sumN_app] at h2
 simp only [sumN] at h2
 omega
theorem partsM_get : ∀ {cs : List Nat} {l : List Pt} {i n : Nat}, cs[i]? = some n → (partsM l cs)[i]? = some ((l.drop (sumN (cs.take i))).take n)
  | [], l, i, n, h => by simp at h
  | c :: cs, l, 0, n, h => by simp at h; subst h; simp [partsM, sumN]
  | c :: cs, l, i + 1, n, h => by
    have := partsM_get (l := l.drop c) (i := i) (n := n) (cs := cs) (by simpa using h)
    simp only [partsM, List.getElem?_cons_succ, this, List.take_succ_cons, sumN, List.drop_drop]
theorem partsM_len : ∀ (cs : List Nat) (l : List Pt), (partsM l cs).length = cs.length
  | [], l => rfl
  | c :: cs, l => by simp [partsM, partsM_len cs]
def CutOk (cs : List Nat) (n : Nat) : Prop := (∀ m ∈ cs, 1 ≤ m) ∧ sumN cs = n
theorem cutOk_len : ∀ {cs : List Nat} {n : Nat}, CutOk cs n → cs.length ≤ n
  | [], n, _ => by simp
  | c :: cs, n, h => by
    have h1 := h.1 c List.mem_cons_self
    have h2 := h.2
    simp only [sumN] at h2
    have := cutOk_len (cs := cs) (n := n - c) ⟨fun m hm => h.1 m (List.mem_cons_of_mem _ hm), by omega⟩
    simp; omega
theorem cut_ok (cut : List Bnd → List (List Bnd)) (nn : List Bnd → Nat) (h0 : cut [] = []) (hc : ∀ l, 0 < l.length → cut l = l.take (nn l) :: cut (l.drop (nn l))) (h1 : ∀ l, 0 < l.length → 1 ≤ nn l) (h2 : ∀ l, nn l ≤ l.length) :
    ∀ (k : Nat) (l : List Bnd), l.length ≤ k → CutOk (lens (cut l)) l.length
  | 0, l, h => by
    have : l = [] := List.eq_nil_of_length_eq_zero (by omega)
    subst this; rw [h0]; exact ⟨fun m hm => by simp [lens] at hm, rfl⟩
  | k + 1, [], _ => by rw [h0]; exact ⟨fun m hm => by simp [lens] at hm, rfl⟩
  | k + 1, b :: bs, h => by
    have hp := h1 (b :: bs) (by simp)
    have hle := h2 (b :: bs)
    rw [hc (b :: bs) (by simp), lens_cons]
    have ih := cut_ok cut nn h0 hc h1 h2 k ((b :: bs).drop (nn (b :: bs))) (by simp at h ⊢; omega)
    have hl : ((b :: bs).take (nn (b :: bs))).length = nn (b :: bs) := by rw [List.length_take]; omega
    refine ⟨fun m hm => ?_, ?_⟩
    · rcases List.mem_cons.1 hm with rfl | hm
      · rw [hl]; exact hp
      · exact ih.1 m hm
    · have := ih.2
      simp only [sumN, hl, List.length_drop] at this ⊢
      omega
theorem cutM_ok (l : List Bnd) : CutOk (lens (cutM l)) l.length := cut_ok cutM (fun l => (longM com0 0 l).2) rfl (fun _ h => cutM_cons h) (fun _ h => long_pos h) long_le _ l (Nat.le_refl _)
theorem cutS_ok (l : List Bnd) : CutOk (lens (cutS l)) l.length := cut_ok cutS (fun l => (firstM l).1) rfl (fun _ h => cutS_cons h) (fun _ h => firstM_pos h) firstM_le _ l (Nat.le_refl _)
theorem cutL_ok (l : List Bnd) : CutOk (lens (cutL l)) l.length := cut_ok cutL (fun l => (sfitM l).2.length) rfl (fun _ h => cutL_cons h) (fun _ h => sfit_pos h) sfit_le _ l (Nat.le_refl _)
theorem part_pts {l : List Pt} {cs : List Nat} (h : pointsM l = true) (hc : CutOk cs l.length) {i : Nat} {p : List Pt} (hp : (partsM l cs)[i]? = some p) : pointsM p = true := by
 have hi : i < cs.length := by rw [← partsM_len cs l]; exact lt_of_get hp
 obtain ⟨n, hn⟩ : ∃ n, cs[i]? = some n := ⟨_, List.getElem?_eq_getElem hi⟩
 rw [partsM_get hn] at hp
 simp only [Option.some.injEq] at hp
 subst hp
 have := sumN_at hn
 exact pts_part h _ _ (hc.1 n (List.mem_of_getElem? hn)) (by rw [← hc.2]; exact this.2)
/-! rows of segments -/
abbrev SgV := Sg × SgA
def encV (v : SgV) : List Value := encG v.1 v.2
def segsI (ys : List SgV) : Imm → Prop := fun I => ∀ y ∈ ys, Sl 3 y.2.ra y.1.Runs.length y.2.rc (y.1.Runs.map encR) I ∧ Sl 1 y.2.wa y.1.Raw.length y.2.wc (y.1.Raw.map encI) I
theorem Ent.segs_nil {L : List Res} : Ent L (.imm (segsI []) :: L) := by
 rintro κ w ⟨hs, I, h1, h2, h3, h4⟩
 refine ⟨hs, I, h1, fun r hr => ?_, ?_, ?_⟩
 ·rcases List.mem_cons.1 hr with rfl | hr
  ·exact fun I' _ y hy => by cases hy
  ·exact h2 r hr
 ·simpa [fps, Res.fp] using h3
 ·simpa [fps, Res.fp] using h4
theorem Ent.imm3 {p q r t : Imm → Prop} {L : List Res} (hp : Res.imm p ∈ L) (hq : Res.imm q ∈ L) (hr : Res.imm r ∈ L) (h : ∀ I, p I → q I → r I → t I) : Ent L (.imm t :: L) := by
 rintro κ w ⟨hs, I, h1, h2, h3, h4⟩
 refine ⟨hs, I, h1, fun s hs' => ?_, ?_, ?_⟩
 ·rcases List.mem_cons.1 hs' with rfl | hs'
  ·exact fun I' hI => h I' (h2 _ hp I' hI) (h2 _ hq I' hI) (h2 _ hr I' hI)
  ·exact h2 s hs'
 ·simpa [fps, Res.fp] using h3
 ·simpa [fps, Res.fp] using h4
theorem Ent.segs_push {ys : List SgV} {s : Sg} {xb : SgA} {L : List Res} (h1 : Res.imm (segsI ys) ∈ L) (h2 : rowI 3 encR s.Runs xb.ra xb.rc ∈ L) (h3 : rowI 1 encI s.Raw xb.wa xb.wc ∈ L) : Ent L (.imm (segsI (ys ++ [(s, xb)])) :: L) :=
  Ent.imm3 h1 h2 h3 fun I g1 g2 g3 y hy => by
    rcases List.mem_append.1 hy with hy | hy
    · exact g1 y hy
    · rw [List.mem_singleton.1 hy]; exact ⟨g2, g3⟩
theorem Ent.segs_at {ys : List SgV} {y : SgV} {L : List Res} (h1 : Res.imm (segsI ys) ∈ L) (hy : y ∈ ys) : Ent L (rowI 3 encR y.1.Runs y.2.ra y.2.rc :: rowI 1 encI y.1.Raw y.2.wa y.2.wc :: L) :=
  (Ent.imm h1 fun I g => (g y hy).2).trans (Ent.imm (List.mem_cons_of_mem _ h1) fun I g => (g y hy).1)
def RetSegs (ss : List Sg) : Value → List Res → Prop := fun v L' => ∃ (ys : List SgV) (a : Option Addr) (c : Nat), ys.map Prod.fst = ss ∧ v = .slice a ys.length c ∧ L' = [rowI 8 encV ys a c, .imm (segsI ys)]
theorem i_wparts (l : List Pt) (la : Option Addr) (lc : Nat) (eps : Int) (fv : Value) (cs : List Nat) (ca : Option Addr) (cc bc bm : Nat) (hl : l.length ≤ 4000) (hcs : CutOk cs l.length) : Iter Tryz.prog 127 [] [.pointer (some ⟨bc, 0, none⟩), .pointer (some ⟨bm, 0, none⟩)] [.cell bc [.slice ca cs.length cc] 70, .cell bm [.slice la l.length lc, .int .i64 eps, fv] 129, rowI 2 encT l la lc, rowI 1 encN cs ca cc] [] (partsM l cs) (fun p vs Lx => ∃ a c, vs = [.slice a (List.length p) c] ∧ Lx = [rowI 2 encT p a c]) := by
 intro yv S Sx I R Ix Rx s0 h0 hyld
 refine FnC.go (m := 31) Tryz.func127 Tryz.ntmps127 rfl (Nat.le_of_ble_eq_true rfl) (fun Lf => ?_)
 have hcl := cutOk_len hcs
 refine W.scope ?_
 refine Wr ?_
 refine Oy rfl (Yl.assign rfl) ?_
 refine OW.nil ?_
 refine W.seq ?_
 refine W.label ?_
 refine Wr ?_
 refine Oy rfl (Yl.load1 Tryz.isAgg70 rfl (by repeat constructor) (by repeat constructor)) ?_
 refine Oy rfl (Yl.len ⟨Tryz.underlying70, Tryz.sizeOf3⟩ rfl) ?_
 refine Oy rfl (Yl.move rfl) ?_
 refine OW.nil ?_
 refine W.block ?_
 refine W.loopS (X := (Nat) × (S) × (Nat)) (fun (x : (Nat) × (S) × (Nat)) => match x with | (i, u, at_) => (i ≤ cs.length ∧ (I i u ∧ at_ = sumN (cs.take i)) : Prop)) (fun (x : (Nat) × (S) × (Nat)) => match x with | (i, u, at_) => ([(9, .int .i64 (i : Int)), (4, .int .i64 (at_ : Int))] : Env)) (fun (x : (Nat) × (S) × (Nat)) => match x with | (i, u, at_) => (([.cell bc [.slice ca cs.length cc] 70, .cell bm [.slice la l.length lc, .int .i64 eps, fv] 129, rowI 2 encT l la lc, rowI 1 encN cs ca cc] ++ R u) : List Res)) (fun (x : (Nat) × (S) × (Nat)) => match x with | (i, u, at_) => (cs.length - i : Nat)) (0, s0, 0) [(0, _), (2, _), (7, _), (8, _)] (by exact ⟨Nat.zero_le _, h0, rfl⟩) (Le.cons rfl (Le.cons rfl (Le.cons rfl (Le.cons rfl (Le.cons rfl (Le.cons rfl (Le.nil _))))))) (by repeat constructor) ?_
 rintro ⟨i, u, at_⟩ ⟨hi, hinv⟩
 show W _ _ _ _ _ _ ([(9, .int .i64 (i : Int)), (4, .int .i64 (at_ : Int))] ++ _) _ (([.cell bc [.slice ca cs.length cc] 70, .cell bm [.slice la l.length lc, .int .i64 eps, fv] 129, rowI 2 encT l la lc, rowI 1 encN cs ca cc] ++ R u) ++ _)
 obtain ⟨i1, i2⟩ := hinv
 refine Wr ?_
 refine Oy rfl (Yl.lss rfl rfl) ?_
 refine OW.nil ?_
 refine W.seq ?_
 refine W.cond rfl (fun hq1 => ?_) (fun hq1 => ?_)
 ·have hq1d := of_decide_eq_true hq1
  obtain ⟨y, hy, hdr⟩ := drop_at (l := cs) (i := i) (by omega)
  obtain ⟨hsa, hsb⟩ := sumN_at hy
  rw [← i2] at hsa hsb
  have hse := hcs.2
  refine W.skip ?_
  refine W.seq ?_
  refine W.block ?_
  refine Wr ?_
  refine OW.fact (Sl.isSome (a := ca) (by repeat constructor) (by omega)) ?_
  rintro ⟨p1, hp1⟩; try dsimp only at hp1
  subst hp1
  refine Oy rfl (Yl.indexS i ⟨Tryz.underlying70, Tryz.sizeOf3⟩ rfl rfl rfl (by omega)) ?_
  refine Oy rfl (Yl.loadS0 Tryz.isAgg3 rfl (by repeat constructor) (map_at hy) (by repeat constructor)) ?_
  refine Oy rfl (Yl.assign rfl) ?_
  refine OW.nil ?_
  refine W.seq ?_
  refine Wr ?_
  refine Oy rfl (Yl.move rfl) ?_
  refine Oy rfl (Yl.fieldL 0 (fa_129_0) rfl rfl) ?_
  refine Oy rfl (Yl.fieldL 0 (fa_127_0) rfl rfl) ?_
  refine Oy rfl (Yl.load1 Tryz.isAgg22 rfl (by repeat constructor) (by repeat constructor)) ?_
  refine Oy rfl (Yl.move rfl) ?_
  refine Oy rfl (Yl.move rfl) ?_
  refine Oy rfl (Yl.move rfl) ?_
  refine Oy rfl (Yl.add rfl rfl (by omega)) ?_
  refine Oy rfl (Yl.move rfl) ?_
  refine Oy rfl (Yl.move rfl) ?_
  refine Oy rfl (Yl.add rfl rfl (by omega)) ?_
  refine OW.cutM (l := at_) (h := at_ + y) (q := at_ + y) ((l.drop at_).take y) (Wn.plain rfl) rfl ⟨Tryz.underlying22, Tryz.sizeOf34⟩ rfl (.some rfl (rfl)) (.some rfl (by omega)) (.some rfl (by omega)) rfl (by repeat constructor) (by rw [Nat.add_sub_cancel_left]) (by omega) (by omega) (by omega) (by omega) (fun a1 c1 => ?_)
  refine OW.yield (Wn.plain rfl) rfl rfl rfl (by repeat constructor) (by repeat constructor) (hyld i ((l.drop at_).take y) u _ _ (by rw [i2]; exact partsM_get hy) ⟨_, _, rfl, rfl⟩ i1) ?_ ?_
  ·rintro s' hI'
   refine Oy rfl (Yl.not rfl) ?_
   refine OW.nil ?_
   refine W.cond_f1 rfl (bnot_t rfl) ?_
   refine W.skip ?_
   refine W.region ?_
   refine Oy rfl (Yl.move rfl) ?_
   refine Oy rfl (Yl.move rfl) ?_
   refine Oy rfl (Yl.add rfl rfl (by omega)) ?_
   refine Oy rfl (Yl.assign rfl) ?_
   refine OW.nil ?_
   refine W.region ?_
   refine Oy rfl (Yl.add rfl rfl (by omega)) ?_
   refine Oy rfl (Yl.move rfl) ?_
   refine OW.nil ?_
   refine ⟨(i + 1, s', at_ + y), _, ⟨by omega, ?_⟩, (Le.cons rfl (Le.cons rfl (Le.cons rfl (Le.cons rfl (Le.cons rfl (Le.cons rfl (Le.nil _))))))), rfl, by repeat constructor, by repeat constructor, by first | omega | (dsimp only; omega)⟩
   exact ⟨hI', by rw [hsa]⟩
  ·rintro s' hX
   refine Oy rfl (Yl.not rfl) ?_
   refine OW.nil ?_
   refine W.cond_t1 rfl (bnot_f rfl) ?_
   refine W.exit ?_
   first | exact Fin.mk (Rsl.none rfl) (.inr ⟨_, hX, rfl⟩) (by repeat constructor) (by repeat constructor) | exact Fin.mk (Rsl.none rfl) (.inl ⟨_, i1, rfl⟩) (by repeat constructor) (by repeat constructor)
 ·have hq1d := of_decide_eq_false hq1
  have hil : i = (partsM l cs).length := by rw [partsM_len]; omega
  subst hil
  refine W.exit ?_
  first | exact Fin.mk (Rsl.none rfl) (.inr ⟨_, hX, rfl⟩) (by repeat constructor) (by repeat constructor) | exact Fin.mk (Rsl.none rfl) (.inl ⟨_, i1, rfl⟩) (by repeat constructor) (by repeat constructor)
theorem c_wparts (ma : Option Addr) (mn mc : Nat) (eps : Int) (fv : Value) (ca : Option Addr) (cn cc : Nat) (hfv : OneI [fv]) : FnC Tryz.prog 76 #[.agg [.slice ma mn mc, .int .i64 eps, fv].toArray, .slice ca cn cc] [] (fun v L' => ∃ bc bm, v = .func (.func 127) #[] #[.pointer (some ⟨bc, 0, none⟩), .pointer (some ⟨bm, 0, none⟩)] ∧ L' = [.cell bc [.slice ca cn cc] 70, .cell bm [.slice ma mn mc, .int .i64 eps, fv] 129]) := by
 refine FnC.go (m := 6) Tryz.func76 Tryz.ntmps76 rfl (Nat.le_of_ble_eq_true rfl) (fun Lf => ?_)
 refine Wr ?_
 refine OW.box (Wn.plain rfl) rfl rfl (by constructor) (fun b1 => ?_)
 refine OW.box (Wn.plain rfl) rfl rfl (by constructor) (fun b2 => ?_)
 refine Oy rfl (Yl.assign rfl) ?_
 refine OW.nil ?_
 refine Wr ?_
 refine Oy rfl (Yl.makeFunc rfl rfl) ?_
 refine Oy rfl (Yl.assign rfl) ?_
 refine OW.nil ?_
 refine W.ret ?_
 exact Fin.mk (Rsl.one rfl rfl) ⟨_, _, rfl, rfl⟩ (by repeat constructor) (by repeat constructor)
theorem c_ways1 (l : List Bnd) (a : Option Addr) (c : Nat) : FnC Tryz.prog 114 #[.slice a l.length c] [] (RetRowE 1 encN [l.length]) := by
 refine FnC.go (m := 7) Tryz.func114 Tryz.ntmps114 rfl (Nat.le_of_ble_eq_true rfl) (fun Lf => ?_)
 refine Wr ?_
 refine Oy rfl (Yl.assign rfl) ?_
 refine Oy rfl (Yl.assign rfl) ?_
 refine OW.nil ?_
 refine Wr ?_
 refine Oy rfl (Yl.move rfl) ?_
 refine Oy rfl (Yl.len ⟨Tryz.underlying38, Tryz.sizeOf42⟩ rfl) ?_
 refine OW.lit (is := [0]) (xs := [.tmp 5]) (Wn.plain rfl) rfl rw_70 rfl rfl rfl (by decide) (by repeat constructor) (fun b1 => ?_)
 refine OW.ent (Ent.seal_cell (sz := 1) encN ([l.length]) rfl (fun _ => rfl) (by first | decide | simp)) ?_
 refine Oy rfl (Yl.assign rfl) ?_
 refine Oy rfl (Yl.assign rfl) ?_
 refine OW.nil ?_
 refine W.ret ?_
 exact Fin.mk (Rsl.two rfl rfl rfl) ⟨_, _, rfl, rfl⟩ (by repeat constructor) (by repeat constructor)
theorem c_ways  : FnV Tryz.prog 74 #[] [] (.agg [.nilFunc, .nilFunc, .func (.func 115) #[] #[], .func (.func 116) #[] #[], .func (.func 117) #[] #[], .func (.func 118) #[] #[], .func (.func 119) #[] #[], .func (.func 120) #[] #[], .func (.func 114) #[] #[], .nilFunc].toArray) := by
 refine FnC.go (m := 8) Tryz.func74 Tryz.ntmps74 rfl (Nat.le_of_ble_eq_true rfl) (fun Lf => ?_)
 refine Wr ?_
 refine OW.alloc (Wn.plain rfl) rfl Tryz.zeroValue124 (by constructor) (fun b1 => ?_)
 refine OW.nil ?_
 refine Wr ?_
 refine Oy rfl (Yl.assign rfl) ?_
 refine OW.nil ?_
 refine Wr ?_
 refine Oy rfl (Yl.build (is := [0, 1]) (xs := [.func 115, .func 116]) st_123 rfl rfl (by repeat constructor)) ?_
 refine Oy rfl (Yl.build (is := [0, 1]) (xs := [.func 117, .func 118]) st_123 rfl rfl (by repeat constructor)) ?_
 refine Oy rfl (Yl.build (is := [0, 1]) (xs := [.func 119, .func 120]) st_123 rfl rfl (by repeat constructor)) ?_
 refine Oy rfl (Yl.move rfl) ?_
 refine Oy rfl (Yl.build (is := [0, 1]) (xs := [.tmp 5, .const (.nilFunc)]) st_123 rfl rfl (by repeat constructor)) ?_
 refine Oy rfl (Yl.buildA (is := [1, 2, 3, 4]) (xs := [.tmp 2, .tmp 3, .tmp 4, .tmp 6]) ab_124 rfl rfl (by repeat constructor)) ?_
 refine OW.store (Wn.plain rfl) Tryz.sizeOf124 rfl rfl (by constructor) (by repeat constructor) rfl (by repeat constructor) (by repeat constructor) ?_
 refine OW.nil ?_
 refine W.ret ?_
 exact Fin.v (Rsl.of1 rfl (.cell ⟨Tryz.isAgg124, Tryz.sizeOf124⟩ rfl (by repeat constructor) (by repeat constructor))) (by repeat constructor)
end Go.Yb
