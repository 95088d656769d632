/-
  A part of the proof of windowLine_holds: see the text that holds it. No conditions of its own.
-/
import Derived.Test.YtbfhhinhjgdgpaaGreatDoorSeg2
import Derived.Test.YtbfhhinhjgdgpaaGreatDoorVary
namespace Go.Yb
open Go Go.Proofs Go.RowKit

/-! segcode: segments as bytes -/
def atQ : Option Rn → Int
  | none => 0
  | some q => lastR q
def encRuns : Int → List Rn → List Int
  | _, [] => []
  | at_, r :: rs => vbU (r.From - at_) ++ vbU r.Count ++ (if r.Count = 1 then [] else vbU r.Step) ++ encRuns (lastR r) rs
def encLine (k : Int) (x : Lin) : List Int := if k = 3 then vbU x.R ++ vbU (zig x.N) ++ vbU x.D ++ vbU (zig x.A) else if k = 2 then vbU (zig x.N) ++ vbU x.D ++ vbU (zig x.A) else if k = 1 then vbU (zig x.A) else []
def encRaw : Int → List Int → List Int
  | _, [] => []
  | ahead, v :: vs => vbU (zig (v - ahead)) ++ encRaw v vs
def encM (s : Sg) : List Int := [s.Kind] ++ vbU s.Err ++ (vbU (s.Runs.length : Int) ++ encRuns 0 s.Runs) ++ encLine s.Kind s.Line ++ encRaw 0 s.Raw
def encSg (s : Sg) : List Int := if segM s then encM s else []
theorem risesL_at {q : Option Rn} {y : Rn} {rs : List Rn} (h : risesL q (y :: rs) = true) : 0 ≤ y.From - atQ q ∨ q = none := by
 cases q with
 | none => exact .inr rfl
 | some q =>
  obtain ⟨_, _, h3, _⟩ := risesL_c h
  simp only [runC, Bool.and_eq_true, decide_eq_true_eq] at h3
  exact .inl (by simp only [atQ]; omega)
theorem encRuns_1 {a : Int} {r : Rn} {rs : List Rn} (h : r.Count = 1) : encRuns a (r :: rs) = vbU (r.From - a) ++ vbU r.Count ++ encRuns (lastR r) rs := by simp [encRuns, h]
theorem encRuns_2 {a : Int} {r : Rn} {rs : List Rn} (h : ¬ r.Count = 1) : encRuns a (r :: rs) = vbU (r.From - a) ++ vbU r.Count ++ vbU r.Step ++ encRuns (lastR r) rs := by simp [encRuns, h]
theorem encRuns_len : ∀ (l : List Rn) (a : Int), (encRuns a l).length ≤ 30 * l.length
  | [], a => by simp [encRuns]
  | r :: rs, a => by
    have h0 := encRuns_len rs (lastR r)
    have h1 := vbU_len (r.From - a)
    have h2 := vbU_len r.Count
    have h3 := vbU_len r.Step
    by_cases h : r.Count = 1
    · rw [encRuns_1 h]; simp; omega
    · rw [encRuns_2 h]; simp; omega
theorem encRaw_len : ∀ (l : List Int) (a : Int), (encRaw a l).length ≤ 10 * l.length
  | [], a => by simp [encRaw]
  | v :: vs, a => by
    have h0 := encRaw_len vs v
    have h1 := vbU_len (zig (v - a))
    simp [encRaw]; omega
theorem c_wplain (p : Nat) (out : List Int) (oa : Option Addr) (oc : Nat) (n : Int) (hb : out.length ≤ 100000) (hn0 : 0 ≤ n) (hn1 : n ≤ 9223372036854775807) : FnC Tryz.prog 227 #[.pointer (some ⟨p, 0, none⟩), .int .i64 n] [.cell p [.slice oa (out).length oc] 314, rowI 1 encU8 (out) oa oc] (fun v L' => v = .tuple #[] ∧ ∃ a' c', L' = [.cell p [.slice a' (out ++ vbU n).length c'] 314, rowI 1 encU8 (out ++ vbU n) a' c']) := by
 refine FnC.go (m := 14) Tryz.func227 Tryz.ntmps227 rfl (Nat.le_of_ble_eq_true rfl) (fun Lf => ?_)
 refine W.region ?_
 refine Oy rfl (Yl.move rfl) ?_
 refine Oy rfl (Yl.move rfl) ?_
 refine Oy rfl (Yl.nilCheck rfl) ?_
 refine Oy rfl (Yl.fieldL 0 (fa_314_0) rfl rfl) ?_
 refine Oy rfl (Yl.load1 Tryz.isAgg236 rfl (by repeat constructor) (by repeat constructor)) ?_
 refine Oy rfl (Yl.move rfl) ?_
 refine Oy rfl (Yl.conv Tryz.underlying2 Tryz.underlying83 rfl (show IntKind.u64.wrap n = n from by rw [IntKind.wrap_u64]; omega)) ?_
 refine OW.call (Wn.plain rfl) rfl rfl rfl (FnC.tri0 Tryz.call273 (c_PutU out _ _ n hb (by omega) (by omega))) (by repeat constructor) ?_
 rintro _ _ ⟨ra, rc, rfl, rfl⟩
 refine Oy rfl (Yl.nilCheck rfl) ?_
 refine Oy rfl (Yl.fieldL 0 (fa_314_0) rfl rfl) ?_
 refine OW.store (Wn.plain rfl) Tryz.sizeOf236 rfl rfl (by constructor) (by repeat constructor) rfl (by repeat constructor) (by repeat constructor) ?_
 refine OW.nil ?_
 exact Fin.mk (Rsl.none rfl) ⟨rfl, _, _, rfl⟩ (by repeat constructor) (by repeat constructor)
theorem c_wsigned (p : Nat) (out : List Int) (oa : Option Addr) (oc : Nat) (n : Int) (hb : out.length ≤ 100000) (hn0 : -9223372036854775808 ≤ n) (hn1 : n ≤ 9223372036854775807) : FnC Tryz.prog 230 #[.pointer (some ⟨p, 0, none⟩), .int .i64 n] [.cell p [.slice oa (out).length oc] 314, rowI 1 encU8 (out) oa oc] (fun v L' => v = .tuple #[] ∧ ∃ a' c', L' = [.cell p [.slice a' (out ++ vbU (zig n)).length c'] 314, rowI 1 encU8 (out ++ vbU (zig n)) a' c']) := by
 refine FnC.go (m := 13) Tryz.func230 Tryz.ntmps230 rfl (Nat.le_of_ble_eq_true rfl) (fun Lf => ?_)
 refine W.region ?_
 refine Oy rfl (Yl.move rfl) ?_
 refine Oy rfl (Yl.move rfl) ?_
 refine Oy rfl (Yl.nilCheck rfl) ?_
 refine Oy rfl (Yl.fieldL 0 (fa_314_0) rfl rfl) ?_
 refine Oy rfl (Yl.load1 Tryz.isAgg236 rfl (by repeat constructor) (by repeat constructor)) ?_
 refine Oy rfl (Yl.move rfl) ?_
 refine OW.call (Wn.plain rfl) rfl rfl rfl (FnC.tri0 Tryz.call275 (c_Put out _ _ n hb hn0 hn1)) (by repeat constructor) ?_
 rintro _ _ ⟨ra, rc, rfl, rfl⟩
 refine Oy rfl (Yl.nilCheck rfl) ?_
 refine Oy rfl (Yl.fieldL 0 (fa_314_0) rfl rfl) ?_
 refine OW.store (Wn.plain rfl) Tryz.sizeOf236 rfl rfl (by constructor) (by repeat constructor) rfl (by repeat constructor) (by repeat constructor) ?_
 refine OW.nil ?_
 exact Fin.mk (Rsl.none rfl) ⟨rfl, _, _, rfl⟩ (by repeat constructor) (by repeat constructor)
theorem c_slast (r : Rn) (h : runA r = true) : FnV Tryz.prog 274 #[.agg (encR r).toArray] [] (.int .i64 (lastR r)) := by
 refine FnC.go (m := 12) Tryz.func274 Tryz.ntmps274 rfl (Nat.le_of_ble_eq_true rfl) (fun Lf => ?_)
 have h1 := runA_t h
 have h2 := runA_mul (k := r.Count - 1) h (by omega) (by omega)
 have h3 : (r.Count - 1) * r.Step = r.Step * (r.Count - 1) := Int.mul_comm _ _
 refine Wr ?_
 refine OW.box (Wn.plain rfl) rfl rfl (by constructor) (fun b1 => ?_)
 refine Oy rfl (Yl.assign rfl) ?_
 refine OW.nil ?_
 refine Wr ?_
 refine Oy rfl (Yl.fieldL 0 (fa_96_0) rfl rfl) ?_
 refine Oy rfl (Yl.load1 Tryz.isAgg2 rfl (by repeat constructor) (by repeat constructor)) ?_
 refine Oy rfl (Yl.fieldL 2 (fa_96_2) rfl rfl) ?_
 refine Oy rfl (Yl.load1 Tryz.isAgg3 rfl (by repeat constructor) (by repeat constructor)) ?_
 refine Oy rfl (Yl.sub rfl rfl (by omega)) ?_
 refine Oy rfl (Yl.fieldL 1 (fa_96_1) rfl rfl) ?_
 refine Oy rfl (Yl.load1 Tryz.isAgg2 rfl (by repeat constructor) (by repeat constructor)) ?_
 refine Oy rfl (Yl.mul rfl rfl (by omega)) ?_
 refine Oy rfl (Yl.add rfl rfl (by omega)) ?_
 refine Oy rfl (Yl.assign rfl) ?_
 refine OW.nil ?_
 refine W.ret ?_
 refine Fin.mk (Rsl.one rfl rfl) ⟨?_, rfl⟩ (by repeat constructor) (by repeat constructor)
 rw [h3]; rfl
theorem c_wruns (p : Nat) (out : List Int) (oa : Option Addr) (oc : Nat) (l : List Rn) (a : Option Addr) (c : Nat) (hb : out.length ≤ 50000) (hr : risesM l = true) : FnC Tryz.prog 228 #[.pointer (some ⟨p, 0, none⟩), .slice a l.length c] [.cell p [.slice oa (out).length oc] 314, rowI 1 encU8 (out) oa oc, rowI 3 encR l a c] (fun v L' => v = .tuple #[] ∧ ∃ a' c', L' = [.cell p [.slice a' (out ++ (vbU (l.length : Int) ++ encRuns 0 l)).length c'] 314, rowI 1 encU8 (out ++ (vbU (l.length : Int) ++ encRuns 0 l)) a' c']) := by
 refine FnC.go (m := 40) Tryz.func228 Tryz.ntmps228 rfl (Nat.le_of_ble_eq_true rfl) (fun Lf => ?_)
 obtain ⟨h1, h2, h3⟩ := risesM_t hr
 have hvl := vbU_len (l.length : Int)
 refine W.scope ?_
 refine Wr ?_
 refine Oy rfl (Yl.move rfl) ?_
 refine Oy rfl (Yl.makeFunc rfl rfl) ?_
 refine Oy rfl (Yl.assign rfl) ?_
 refine OW.nil ?_
 refine Wr ?_
 refine Oy rfl (Yl.move rfl) ?_
 refine Oy rfl (Yl.move rfl) ?_
 refine Oy rfl (Yl.len ⟨Tryz.underlying50, Tryz.sizeOf96⟩ rfl) ?_
 refine OW.call (Wn.plain rfl) rfl rfl rfl (FnC.triC Tryz.call227 (c_wplain p out _ _ (l.length : Int) (by omega) (by omega) (by omega))) (by repeat constructor) ?_
 rintro _ _ ⟨rfl, oa2, oc2, rfl⟩
 refine OW.nil ?_
 refine Wr ?_
 refine Oy rfl (Yl.assign rfl) ?_
 refine OW.nil ?_
 refine W.seq ?_
 refine W.label ?_
 refine Wr ?_
 refine Oy rfl (Yl.move rfl) ?_
 refine Oy rfl (Yl.len ⟨Tryz.underlying50, Tryz.sizeOf96⟩ rfl) ?_
 refine Oy rfl (Yl.move rfl) ?_
 refine OW.nil ?_
 refine W.block ?_
 refine W.loopS (X := (Nat) × (List Int) × (Option Addr) × (Nat) × (Option Rn)) (fun (x : (Nat) × (List Int) × (Option Addr) × (Nat) × (Option Rn)) => match x with | (i, ys, ra, rc, q) => (i ≤ l.length ∧ (ys ++ encRuns (atQ q) (l.drop i) = out ++ (vbU (l.length : Int) ++ encRuns 0 l) ∧ risesL q (l.drop i) = true ∧ ys.length ≤ 50010 + 30 * i ∧ (0 ≤ atQ q ∧ atQ q ≤ 281474976710656)) : Prop)) (fun (x : (Nat) × (List Int) × (Option Addr) × (Nat) × (Option Rn)) => match x with | (i, ys, ra, rc, q) => ([(16, .int .i64 (i : Int)), (5, .int .i64 (atQ q))] : Env)) (fun (x : (Nat) × (List Int) × (Option Addr) × (Nat) × (Option Rn)) => match x with | (i, ys, ra, rc, q) => ([.cell p [.slice ra ys.length rc] 314, rowI 1 encU8 ys ra rc] : List Res)) (fun (x : (Nat) × (List Int) × (Option Addr) × (Nat) × (Option Rn)) => match x with | (i, ys, ra, rc, q) => (l.length - i : Nat)) (0, out ++ vbU (l.length : Int), _, _, none) [(4, _), (14, _), (15, _)] (by exact ⟨Nat.zero_le _, by simp [atQ], h2, by simp; omega, by simp [atQ]⟩) (Le.cons rfl (Le.cons rfl (Le.cons rfl (Le.cons rfl (Le.cons rfl (Le.nil _)))))) (by repeat constructor) ?_
 rintro ⟨i, ys, ra, rc, q⟩ ⟨hi, hinv⟩
 show W _ _ _ _ _ _ ([(16, .int .i64 (i : Int)), (5, .int .i64 (atQ q))] ++ _) _ ([.cell p [.slice ra ys.length rc] 314, rowI 1 encU8 ys ra rc] ++ _)
 obtain ⟨i1, i2, i3, i4⟩ := hinv
 refine Wr ?_
 refine Oy rfl (Yl.lss rfl rfl) ?_
 refine OW.nil ?_
 refine W.seq ?_
 refine W.cond rfl (fun hq1 => ?_) (fun hq1 => ?_)
 ·have hq1d := of_decide_eq_true hq1
  obtain ⟨y, hy, hdr⟩ := drop_at (l := l) (i := i) (by omega)
  rw [hdr] at i1 i2
  obtain ⟨hyA, hyB, hyC, hyD⟩ := risesL_c i2
  have hyE := runA_t hyA
  have hyF := (risesL_all i2 y List.mem_cons_self).2
  have hyG := lastR_in hyA
  have hyP : 0 ≤ y.From - atQ q := by rcases risesL_at i2 with h | h; exact h; subst h; simp only [atQ]; omega
  have hv1 := vbU_len (y.From - atQ q)
  have hv2 := vbU_len y.Count
  have hv3 := vbU_len y.Step
  refine W.skip ?_
  refine W.seq ?_
  refine W.block ?_
  refine Wr ?_
  refine OW.fact (Sl.isSome (sz := 3) (a := a) (by repeat constructor) (by omega)) ?_
  rintro ⟨p1, hp1⟩; try dsimp only at hp1
  subst hp1
  refine Oy rfl (Yl.indexS i ⟨Tryz.underlying50, Tryz.sizeOf96⟩ rfl rfl rfl (by omega)) ?_
  refine Oy rfl (Yl.loadE ⟨Tryz.isAgg96, Tryz.sizeOf96⟩ rfl (by repeat constructor) (map_at hy)) ?_
  refine OW.alloc (Wn.plain rfl) rfl Tryz.zeroValue96 (by constructor) (fun b1 => ?_)
  refine OW.store (Wn.plain rfl) Tryz.sizeOf96 rfl rfl (by constructor) (by repeat constructor) rfl (by repeat constructor) (by repeat constructor) ?_
  refine OW.nil ?_
  refine Wr ?_
  refine Oy rfl (Yl.move rfl) ?_
  refine Oy rfl (Yl.fieldL 0 (fa_96_0) rfl rfl) ?_
  refine Oy rfl (Yl.load1 Tryz.isAgg2 rfl (by repeat constructor) (by repeat constructor)) ?_
  refine Oy rfl (Yl.move rfl) ?_
  refine Oy rfl (Yl.sub rfl rfl (by omega)) ?_
  refine OW.call (Wn.plain rfl) rfl rfl rfl (FnC.triC Tryz.call227 (c_wplain p ys _ _ (y.From - atQ q) (by omega) (by omega) (by omega))) (by repeat constructor) ?_
  rintro _ _ ⟨rfl, oa2, oc2, rfl⟩
  refine OW.nil ?_
  refine Wr ?_
  refine Oy rfl (Yl.move rfl) ?_
  refine Oy rfl (Yl.fieldL 2 (fa_96_2) rfl rfl) ?_
  refine Oy rfl (Yl.load1 Tryz.isAgg3 rfl (by repeat constructor) (by repeat constructor)) ?_
  refine OW.call (Wn.plain rfl) rfl rfl rfl (FnC.triC Tryz.call227 (c_wplain p (ys ++ vbU (y.From - atQ q)) _ _ y.Count (by simp; omega) (by omega) (by omega))) (by repeat constructor) ?_
  rintro _ _ ⟨rfl, oa2, oc2, rfl⟩
  refine OW.nil ?_
  refine Wr ?_
  refine Oy rfl (Yl.load ⟨Tryz.isAgg96, Tryz.sizeOf96⟩ rfl (by repeat constructor) (by repeat constructor)) ?_
  refine OW.callv (Wn.plain rfl) rfl Tryz.call274 rfl (c_slast y hyA) (by repeat constructor) ?_
  refine Oy rfl (Yl.assign rfl) ?_
  refine OW.nil ?_
  refine W.seq ?_
  refine Wr ?_
  refine Oy rfl (Yl.fieldL 2 (fa_96_2) rfl rfl) ?_
  refine Oy rfl (Yl.load1 Tryz.isAgg3 rfl (by repeat constructor) (by repeat constructor)) ?_
  refine Oy rfl (Yl.eql rfl rfl) ?_
  refine OW.nil ?_
  refine W.cond rfl (fun hq2 => ?_) (fun hq2 => ?_)
  ·have hq2d := of_decide_eq_true hq2
   refine W.exit ?_
   refine W.region ?_
   refine Oy rfl (Yl.add rfl rfl (by omega)) ?_
   refine Oy rfl (Yl.move rfl) ?_
   refine OW.nil ?_
   refine ⟨(i + 1, ys ++ vbU (y.From - atQ q) ++ vbU y.Count, _, _, some y), _, ⟨by omega, ?_⟩, (Le.cons rfl (Le.cons rfl (Le.cons rfl (Le.cons rfl (Le.cons rfl (Le.nil _)))))), rfl, by repeat constructor, by repeat constructor, by first | omega | (dsimp only; omega)⟩
   exact ⟨by rw [← i1, encRuns_1 (by omega)]; simp [atQ, List.append_assoc], hyD, by simp; omega, hyG, hyF⟩
  ·have hq2d := of_decide_eq_false hq2
   refine W.skip ?_
   refine W.region ?_
   refine Oy rfl (Yl.move rfl) ?_
   refine Oy rfl (Yl.fieldL 1 (fa_96_1) rfl rfl) ?_
   refine Oy rfl (Yl.load1 Tryz.isAgg2 rfl (by repeat constructor) (by repeat constructor)) ?_
   refine OW.call (Wn.plain rfl) rfl rfl rfl (FnC.triC Tryz.call227 (c_wplain p (ys ++ vbU (y.From - atQ q) ++ vbU y.Count) _ _ y.Step (by simp; omega) (by omega) (by omega))) (by repeat constructor) ?_
   rintro _ _ ⟨rfl, oa2, oc2, rfl⟩
   refine OW.nil ?_
   refine W.region ?_
   refine Oy rfl (Yl.add rfl rfl (by omega)) ?_
   refine Oy rfl (Yl.move rfl) ?_
   refine OW.nil ?_
   refine ⟨(i + 1, ys ++ vbU (y.From - atQ q) ++ vbU y.Count ++ vbU y.Step, _, _, some y), _, ⟨by omega, ?_⟩, (Le.cons rfl (Le.cons rfl (Le.cons rfl (Le.cons rfl (Le.cons rfl (Le.nil _)))))), rfl, by repeat constructor, by repeat constructor, by first | omega | (dsimp only; omega)⟩
   exact ⟨by rw [← i1, encRuns_2 (by omega)]; simp [atQ, List.append_assoc], hyD, by simp; omega, hyG, hyF⟩
 ·have hq1d := of_decide_eq_false hq1
  rw [drop_end (by omega)] at i1
  simp only [encRuns, List.append_nil] at i1
  subst i1
  refine W.exit ?_
  exact Fin.mk (Rsl.none rfl) ⟨rfl, _, _, rfl⟩ (by repeat constructor) (by repeat constructor)

theorem encLine_len (k : Int) (x : Lin) : (encLine k x).length ≤ 40 := by
 have h1 := vbU_len x.R
 have h2 := vbU_len (zig x.N)
 have h3 := vbU_len x.D
 have h4 := vbU_len (zig x.A)
 unfold encLine
 split
 ·simp; omega
 ·split
  ·simp; omega
  ·split <;> simp; omega

theorem c_wline (p : Nat) (out : List Int) (oa : Option Addr) (oc : Nat) (k : Int) (x : Lin) (hb : out.length ≤ 90000) (hx : 0 ≤ x.R ∧ x.R ≤ 9223372036854775807 ∧ 0 ≤ x.D ∧ x.D ≤ 9223372036854775807 ∧ I64 x.N ∧ I64 x.A) : FnC Tryz.prog 229 #[.pointer (some ⟨p, 0, none⟩), .int .i64 k, .agg (encL x).toArray] [.cell p [.slice oa (out).length oc] 314, rowI 1 encU8 (out) oa oc] (fun v L' => v = .tuple #[] ∧ ∃ a' c', L' = [.cell p [.slice a' (out ++ encLine k x).length c'] 314, rowI 1 encU8 (out ++ encLine k x) a' c']) := by
 refine FnC.go (m := 29) Tryz.func229 Tryz.ntmps229 rfl (Nat.le_of_ble_eq_true rfl) (fun Lf => ?_)
 obtain ⟨x1, x2, x3, x4, x5, x6⟩ := hx
 unfold I64 at x5 x6
 have h1 := vbU_len x.R
 have h2 := vbU_len (zig x.N)
 have h3 := vbU_len x.D
 have h4 := vbU_len (zig x.A)
 refine Wr ?_
 refine OW.box (Wn.plain rfl) rfl rfl (by constructor) (fun b1 => ?_)
 refine OW.nil ?_
 refine Wr ?_
 refine Oy rfl (Yl.move rfl) ?_
 refine OW.nil ?_
 refine W.block ?_
 refine W.seq ?_
 refine W.block ?_
 refine W.seq ?_
 refine W.block ?_
 refine W.seq ?_
 refine W.block ?_
 refine W.seq ?_
 refine W.seq ?_
 refine Wr ?_
 refine Oy rfl (Yl.eql rfl rfl) ?_
 refine Oy rfl (Yl.assign rfl) ?_
 refine OW.nil ?_
 refine W.cond rfl (fun hq1 => ?_) (fun hq1 => ?_)
 ·have hq1d := of_decide_eq_true hq1
  refine W.exit ?_
  refine W.region ?_
  refine Oy rfl (Yl.move rfl) ?_
  refine Oy rfl (Yl.fieldL 1 (fa_37_1) rfl rfl) ?_
  refine Oy rfl (Yl.load1 Tryz.isAgg2 rfl (by repeat constructor) (by repeat constructor)) ?_
  refine OW.call (Wn.plain rfl) rfl rfl rfl (FnC.tri0 Tryz.call227 (c_wplain p (out) _ _ (x.R) (by first | omega | (simp; omega)) (by omega) (by omega))) (by repeat constructor) ?_
  rintro _ _ ⟨rfl, oa2, oc2, rfl⟩
  refine OW.nil ?_
  refine Wr ?_
  refine Oy rfl (Yl.move rfl) ?_
  refine Oy rfl (Yl.fieldL 2 (fa_37_2) rfl rfl) ?_
  refine Oy rfl (Yl.load1 Tryz.isAgg2 rfl (by repeat constructor) (by repeat constructor)) ?_
  refine OW.call (Wn.plain rfl) rfl rfl rfl (FnC.tri0 Tryz.call230 (c_wsigned p (out ++ vbU x.R) _ _ (x.N) (by first | omega | (simp; omega)) (by omega) (by omega))) (by repeat constructor) ?_
  rintro _ _ ⟨rfl, oa2, oc2, rfl⟩
  refine OW.nil ?_
  refine W.region ?_
  refine Oy rfl (Yl.move rfl) ?_
  refine Oy rfl (Yl.fieldL 3 (fa_37_3) rfl rfl) ?_
  refine Oy rfl (Yl.load1 Tryz.isAgg2 rfl (by repeat constructor) (by repeat constructor)) ?_
  refine OW.call (Wn.plain rfl) rfl rfl rfl (FnC.tri0 Tryz.call227 (c_wplain p (out ++ vbU x.R ++ vbU (zig x.N)) _ _ (x.D) (by first | omega | (simp; omega)) (by omega) (by omega))) (by repeat constructor) ?_
  rintro _ _ ⟨rfl, oa2, oc2, rfl⟩
  refine OW.nil ?_
  refine Wr ?_
  refine Oy rfl (Yl.move rfl) ?_
  refine Oy rfl (Yl.fieldL 0 (fa_37_0) rfl rfl) ?_
  refine Oy rfl (Yl.load1 Tryz.isAgg2 rfl (by repeat constructor) (by repeat constructor)) ?_
  refine OW.call (Wn.plain rfl) rfl rfl rfl (FnC.tri0 Tryz.call230 (c_wsigned p (out ++ vbU x.R ++ vbU (zig x.N) ++ vbU x.D) _ _ (x.A) (by first | omega | (simp; omega)) (by omega) (by omega))) (by repeat constructor) ?_
  rintro _ _ ⟨rfl, oa2, oc2, rfl⟩
  refine OW.nil ?_
  refine W.exit ?_
  have he : ∃ e, encLine k x = e := ⟨_, rfl⟩
  first | (rw [show encLine k x = vbU x.R ++ vbU (zig x.N) ++ vbU x.D ++ vbU (zig x.A) from if_pos (by omega)]; simp only [← List.append_assoc]; exact Fin.mk (Rsl.none rfl) ⟨rfl, _, _, rfl⟩ (by repeat constructor) (by repeat constructor)) | (rw [show encLine k x = vbU (zig x.N) ++ vbU x.D ++ vbU (zig x.A) from by unfold encLine; rw [if_neg (by omega), if_pos (by omega)]]; simp only [← List.append_assoc]; exact Fin.mk (Rsl.none rfl) ⟨rfl, _, _, rfl⟩ (by repeat constructor) (by repeat constructor)) | (rw [show encLine k x = vbU (zig x.A) from by unfold encLine; rw [if_neg (by omega), if_neg (by omega), if_pos (by omega)]]; exact Fin.mk (Rsl.none rfl) ⟨rfl, _, _, rfl⟩ (by repeat constructor) (by repeat constructor)) | (rw [show encLine k x = [] from by unfold encLine; rw [if_neg (by omega), if_neg (by omega), if_neg (by omega)]]; simp only [List.append_nil]; exact Fin.mk (Rsl.none rfl) ⟨rfl, _, _, rfl⟩ (by repeat constructor) (by repeat constructor))
 ·have hq1d := of_decide_eq_false hq1
  refine W.skip ?_
  refine W.seq ?_
  refine Wr ?_
  refine Oy rfl (Yl.eql rfl rfl) ?_
  refine Oy rfl (Yl.assign rfl) ?_
  refine OW.nil ?_
  refine W.cond rfl (fun hq2 => ?_) (fun hq2 => ?_)
  ·have hq2d := of_decide_eq_true hq2
   refine W.exit ?_
   refine Wr ?_
   refine Oy rfl (Yl.move rfl) ?_
   refine Oy rfl (Yl.fieldL 2 (fa_37_2) rfl rfl) ?_
   refine Oy rfl (Yl.load1 Tryz.isAgg2 rfl (by repeat constructor) (by repeat constructor)) ?_
   refine OW.call (Wn.plain rfl) rfl rfl rfl (FnC.tri0 Tryz.call230 (c_wsigned p (out) _ _ (x.N) (by first | omega | (simp; omega)) (by omega) (by omega))) (by repeat constructor) ?_
   rintro _ _ ⟨rfl, oa2, oc2, rfl⟩
   refine OW.nil ?_
   refine W.region ?_
   refine Oy rfl (Yl.move rfl) ?_
   refine Oy rfl (Yl.fieldL 3 (fa_37_3) rfl rfl) ?_
   refine Oy rfl (Yl.load1 Tryz.isAgg2 rfl (by repeat constructor) (by repeat constructor)) ?_
   refine OW.call (Wn.plain rfl) rfl rfl rfl (FnC.tri0 Tryz.call227 (c_wplain p (out ++ vbU (zig x.N)) _ _ (x.D) (by first | omega | (simp; omega)) (by omega) (by omega))) (by repeat constructor) ?_
   rintro _ _ ⟨rfl, oa2, oc2, rfl⟩
   refine OW.nil ?_
   refine Wr ?_
   refine Oy rfl (Yl.move rfl) ?_
   refine Oy rfl (Yl.fieldL 0 (fa_37_0) rfl rfl) ?_
   refine Oy rfl (Yl.load1 Tryz.isAgg2 rfl (by repeat constructor) (by repeat constructor)) ?_
   refine OW.call (Wn.plain rfl) rfl rfl rfl (FnC.tri0 Tryz.call230 (c_wsigned p (out ++ vbU (zig x.N) ++ vbU x.D) _ _ (x.A) (by first | omega | (simp; omega)) (by omega) (by omega))) (by repeat constructor) ?_
   rintro _ _ ⟨rfl, oa2, oc2, rfl⟩
   refine OW.nil ?_
   refine W.exit ?_
   have he : ∃ e, encLine k x = e := ⟨_, rfl⟩
   first | (rw [show encLine k x = vbU x.R ++ vbU (zig x.N) ++ vbU x.D ++ vbU (zig x.A) from if_pos (by omega)]; simp only [← List.append_assoc]; exact Fin.mk (Rsl.none rfl) ⟨rfl, _, _, rfl⟩ (by repeat constructor) (by repeat constructor)) | (rw [show encLine k x = vbU (zig x.N) ++ vbU x.D ++ vbU (zig x.A) from by unfold encLine; rw [if_neg (by omega), if_pos (by omega)]]; simp only [← List.append_assoc]; exact Fin.mk (Rsl.none rfl) ⟨rfl, _, _, rfl⟩ (by repeat constructor) (by repeat constructor)) | (rw [show encLine k x = vbU (zig x.A) from by unfold encLine; rw [if_neg (by omega), if_neg (by omega), if_pos (by omega)]]; exact Fin.mk (Rsl.none rfl) ⟨rfl, _, _, rfl⟩ (by repeat constructor) (by repeat constructor)) | (rw [show encLine k x = [] from by unfold encLine; rw [if_neg (by omega), if_neg (by omega), if_neg (by omega)]]; simp only [List.append_nil]; exact Fin.mk (Rsl.none rfl) ⟨rfl, _, _, rfl⟩ (by repeat constructor) (by repeat constructor))
  ·have hq2d := of_decide_eq_false hq2
   refine W.skip ?_
   refine Wr ?_
   refine Oy rfl (Yl.eql rfl rfl) ?_
   refine Oy rfl (Yl.assign rfl) ?_
   refine OW.nil ?_
   refine W.cond rfl (fun hq3 => ?_) (fun hq3 => ?_)
   ·have hq3d := of_decide_eq_true hq3
    refine W.exit ?_
    refine Wr ?_
    refine Oy rfl (Yl.move rfl) ?_
    refine Oy rfl (Yl.fieldL 0 (fa_37_0) rfl rfl) ?_
    refine Oy rfl (Yl.load1 Tryz.isAgg2 rfl (by repeat constructor) (by repeat constructor)) ?_
    refine OW.call (Wn.plain rfl) rfl rfl rfl (FnC.tri0 Tryz.call230 (c_wsigned p (out) _ _ (x.A) (by first | omega | (simp; omega)) (by omega) (by omega))) (by repeat constructor) ?_
    rintro _ _ ⟨rfl, oa2, oc2, rfl⟩
    refine OW.nil ?_
    refine W.exit ?_
    have he : ∃ e, encLine k x = e := ⟨_, rfl⟩
    first | (rw [show encLine k x = vbU x.R ++ vbU (zig x.N) ++ vbU x.D ++ vbU (zig x.A) from if_pos (by omega)]; simp only [← List.append_assoc]; exact Fin.mk (Rsl.none rfl) ⟨rfl, _, _, rfl⟩ (by repeat constructor) (by repeat constructor)) | (rw [show encLine k x = vbU (zig x.N) ++ vbU x.D ++ vbU (zig x.A) from by unfold encLine; rw [if_neg (by omega), if_pos (by omega)]]; simp only [← List.append_assoc]; exact Fin.mk (Rsl.none rfl) ⟨rfl, _, _, rfl⟩ (by repeat constructor) (by repeat constructor)) | (rw [show encLine k x = vbU (zig x.A) from by unfold encLine; rw [if_neg (by omega), if_neg (by omega), if_pos (by omega)]]; exact Fin.mk (Rsl.none rfl) ⟨rfl, _, _, rfl⟩ (by repeat constructor) (by repeat constructor)) | (rw [show encLine k x = [] from by unfold encLine; rw [if_neg (by omega), if_neg (by omega), if_neg (by omega)]]; simp only [List.append_nil]; exact Fin.mk (Rsl.none rfl) ⟨rfl, _, _, rfl⟩ (by repeat constructor) (by repeat constructor))
   ·have hq3d := of_decide_eq_false hq3
    refine W.skip ?_
    refine W.exit ?_
    have he : ∃ e, encLine k x = e := ⟨_, rfl⟩
    first | (rw [show encLine k x = vbU x.R ++ vbU (zig x.N) ++ vbU x.D ++ vbU (zig x.A) from if_pos (by omega)]; simp only [← List.append_assoc]; exact Fin.mk (Rsl.none rfl) ⟨rfl, _, _, rfl⟩ (by repeat constructor) (by repeat constructor)) | (rw [show encLine k x = vbU (zig x.N) ++ vbU x.D ++ vbU (zig x.A) from by unfold encLine; rw [if_neg (by omega), if_pos (by omega)]]; simp only [← List.append_assoc]; exact Fin.mk (Rsl.none rfl) ⟨rfl, _, _, rfl⟩ (by repeat constructor) (by repeat constructor)) | (rw [show encLine k x = vbU (zig x.A) from by unfold encLine; rw [if_neg (by omega), if_neg (by omega), if_pos (by omega)]]; exact Fin.mk (Rsl.none rfl) ⟨rfl, _, _, rfl⟩ (by repeat constructor) (by repeat constructor)) | (rw [show encLine k x = [] from by unfold encLine; rw [if_neg (by omega), if_neg (by omega), if_neg (by omega)]]; simp only [List.append_nil]; exact Fin.mk (Rsl.none rfl) ⟨rfl, _, _, rfl⟩ (by repeat constructor) (by repeat constructor))

theorem segM_line {s : Sg} (h : segM s = true) : 0 ≤ s.Line.R ∧ s.Line.R ≤ 9223372036854775807 ∧ 0 ≤ s.Line.D ∧ s.Line.D ≤ 9223372036854775807 ∧ I64 s.Line.N ∧ I64 s.Line.A := by
 obtain ⟨h1, _, hr, hk⟩ := segM_t h
 by_cases h4 : s.Kind = 4
 ·rw [kindM_4 h4] at hk
  rw [(rawM_t hk).1]
  unfold I64
  simp
 ·have key : lineIsM s = true := by
   rcases (show s.Kind = 1 ∨ s.Kind = 2 ∨ s.Kind = 3 by omega) with h | h | h
   ·rw [kindM_1 h] at hk; simp only [flatM, Bool.and_eq_true] at hk; exact hk.2
   ·rw [kindM_2 h] at hk; simp only [tiltM, Bool.and_eq_true] at hk; exact hk.2.2
   ·rw [kindM_3 h] at hk; simp only [freeM, Bool.and_eq_true] at hk; exact hk.2
  simp only [lineIsM, Bool.and_eq_true, decide_eq_true_eq] at key
  have hl : lineM s.Line = true := by
   cases hl : lineM s.Line
   ·have := key.1; unfold endsE at this; rw [hl] at this; simp at this
   ·rfl
  simp only [lineM, Bool.and_eq_true, decide_eq_true_eq, slopeM, backM] at hl
  unfold I64
  omega
theorem raw_bd {s : Sg} (h : segM s = true) : ∀ v ∈ s.Raw, -2305844108725321728 ≤ v ∧ v ≤ 2305844108725321728 := fun v hv => by
 obtain ⟨h1, _, hr, hk⟩ := segM_t h
 by_cases h4 : s.Kind = 4
 ·rw [kindM_4 h4] at hk
  exact back_t ((rawM_t hk).2.2 v hv)
 ·have h0 : s.Raw.length = 0 := by
   rcases (show s.Kind = 1 ∨ s.Kind = 2 ∨ s.Kind = 3 by omega) with h | h | h
   ·rw [kindM_1 h] at hk; simp only [flatM, lineIsM, Bool.and_eq_true, decide_eq_true_eq] at hk; exact hk.2.2
   ·rw [kindM_2 h] at hk; simp only [tiltM, lineIsM, Bool.and_eq_true, decide_eq_true_eq] at hk; exact hk.2.2.2
   ·rw [kindM_3 h] at hk; simp only [freeM, lineIsM, Bool.and_eq_true, decide_eq_true_eq] at hk; exact hk.2.2
  rw [List.eq_nil_of_length_eq_zero h0] at hv
  cases hv

theorem c_Encode (s : Sg) (xa : SgA) : FnC Tryz.prog 168 #[.agg (encG s xa).toArray] [rowI 3 encR s.Runs xa.ra xa.rc, rowI 1 encI s.Raw xa.wa xa.wc] (fun v L' => ∃ a c, v = .tuple [.slice a (encSg s).length c, .int .i64 (if segM s then 0 else 210)].toArray ∧ L' = [rowI 1 encU8 (encSg s) a c]) := by
 refine FnC.go (m := 52) Tryz.func168 Tryz.ntmps168 rfl (Nat.le_of_ble_eq_true rfl) (fun Lf => ?_)
 obtain ⟨xra, xrc, xwa, xwc⟩ := xa
 refine Wr ?_
 refine OW.box (Wn.plain rfl) rfl rfl (by constructor) (fun b1 => ?_)
 refine Oy rfl (Yl.assign rfl) ?_
 refine Oy rfl (Yl.assign rfl) ?_
 refine OW.nil ?_
 refine W.seq ?_
 refine Wr ?_
 refine Oy rfl (Yl.load ⟨Tryz.isAgg53, Tryz.sizeOf53⟩ rfl (by repeat constructor) (by repeat constructor)) ?_
 refine OW.callv (Wn.plain rfl) rfl Tryz.call27 rfl (c_gCheck _ _) (by repeat constructor) ?_
 refine Oy rfl (Yl.assign rfl) ?_
 refine OW.nil ?_
 refine Wr ?_
 refine Oy rfl (Yl.move rfl) ?_
 refine Oy rfl (Yl.neq rfl rfl) ?_
 refine OW.nil ?_
 refine W.cond rfl (fun hq1 => ?_) (fun hq1 => ?_)
 ·have hq1d := of_decide_eq_true hq1
  have hr : segM s = false := by (cases hs : segM s; rfl; simp [hs] at hq1d)
  have e1 : encSg s = [] := by simp [encSg, hr]
  rw [e1]
  refine Wr ?_
  refine Oy rfl (Yl.move rfl) ?_
  refine Oy rfl (Yl.assign rfl) ?_
  refine Oy rfl (Yl.assign rfl) ?_
  refine OW.nil ?_
  refine W.ret ?_
  rw [hr]
  exact Fin.ent (rowI.nil 1 encU8) (Fin.mk (Rsl.two rfl rfl rfl) ⟨none, 0, rfl, rfl⟩ (by repeat constructor) (by repeat constructor))
 ·have hq1d := of_decide_eq_false hq1
  have hr : segM s = true := by (cases hs : segM s; simp [hs] at hq1d; rfl)
  have e1 : encSg s = encM s := by simp [encSg, hr]
  rw [e1]
  obtain ⟨k1, k2, k3, k4⟩ := segM_t hr
  have hl1 := vbU_len s.Err
  have hl2 := vbU_len (s.Runs.length : Int)
  have hl3 := encRuns_len s.Runs 0
  have hl4 := encLine_len s.Kind s.Line
  obtain ⟨hl5, hl6⟩ := segM_lens hr
  have hbd := raw_bd hr
  refine W.skip ?_
  refine Wr ?_
  refine Oy rfl (Yl.fieldL 0 (fa_53_0) rfl rfl) ?_
  refine Oy rfl (Yl.load1 Tryz.isAgg3 rfl (by repeat constructor) (by repeat constructor)) ?_
  refine Oy rfl (Yl.conv Tryz.underlying3 Tryz.underlying5 rfl (show IntKind.u8.wrap s.Kind = s.Kind from by rw [IntKind.wrap_u8]; omega)) ?_
  refine OW.lit (is := [0]) (xs := [.tmp 16]) (Wn.plain rfl) rfl rw_236 rfl rfl rfl (by decide) (by repeat constructor) (fun b2 => ?_)
  refine OW.ent (Ent.seal_cell (sz := 1) encU8 ([s.Kind]) rfl (fun _ => rfl) (by first | decide | simp)) ?_
  refine Oy rfl (Yl.build (is := [0]) (xs := [.tmp 17]) st_314 rfl rfl (by repeat constructor)) ?_
  refine OW.box (Wn.plain rfl) rfl rfl (by constructor) (fun b3 => ?_)
  refine Oy rfl (Yl.assign rfl) ?_
  refine OW.nil ?_
  refine Wr ?_
  refine Oy rfl (Yl.move rfl) ?_
  refine Oy rfl (Yl.fieldL 7 (fa_53_4) rfl rfl) ?_
  refine Oy rfl (Yl.load1 Tryz.isAgg2 rfl (by repeat constructor) (by repeat constructor)) ?_
  refine OW.call (Wn.plain rfl) rfl rfl rfl (FnC.tri0 Tryz.call227 (c_wplain _ ([s.Kind]) _ _ s.Err (by simp) (by omega) (by omega))) (by repeat constructor) ?_
  rintro _ _ ⟨rfl, oa2, oc2, rfl⟩
  refine OW.nil ?_
  refine Wr ?_
  refine Oy rfl (Yl.move rfl) ?_
  refine Oy rfl (Yl.fieldL 1 (fa_53_1) rfl rfl) ?_
  refine Oy rfl (Yl.load1 Tryz.isAgg50 rfl (by repeat constructor) (by repeat constructor)) ?_
  refine OW.call (Wn.plain rfl) rfl rfl rfl (FnC.tri0 Tryz.call228 (c_wruns _ ([s.Kind] ++ vbU s.Err) _ _ s.Runs _ _ (by simp; omega) k3)) (by repeat constructor) ?_
  rintro _ _ ⟨rfl, oa3, oc3, rfl⟩
  refine OW.nil ?_
  refine Wr ?_
  refine Oy rfl (Yl.move rfl) ?_
  refine Oy rfl (Yl.fieldL 0 (fa_53_0) rfl rfl) ?_
  refine Oy rfl (Yl.load1 Tryz.isAgg3 rfl (by repeat constructor) (by repeat constructor)) ?_
  refine Oy rfl (Yl.fieldL 2 (fa_53_2) rfl rfl) ?_
  refine Oy rfl (Yl.load ⟨Tryz.isAgg37, Tryz.sizeOf37⟩ rfl (by repeat constructor) (by repeat constructor)) ?_
  refine OW.call (Wn.plain rfl) rfl rfl rfl (FnC.tri0 Tryz.call229 (c_wline _ ([s.Kind] ++ vbU s.Err ++ (vbU (s.Runs.length : Int) ++ encRuns 0 s.Runs)) _ _ s.Kind s.Line (by simp; omega) (segM_line hr))) (by repeat constructor) ?_
  rintro _ _ ⟨rfl, oa4, oc4, rfl⟩
  refine OW.nil ?_
  refine Wr ?_
  refine Oy rfl (Yl.assign rfl) ?_
  refine OW.nil ?_
  refine W.seq ?_
  refine Wr ?_
  refine Oy rfl (Yl.fieldL 6 (fa_53_3) rfl rfl) ?_
  refine Oy rfl (Yl.load1 Tryz.isAgg51 rfl (by repeat constructor) (by repeat constructor)) ?_
  refine Oy rfl (Yl.len ⟨Tryz.underlying51, Tryz.sizeOf2⟩ rfl) ?_
  refine Oy rfl (Yl.move rfl) ?_
  refine OW.nil ?_
  refine W.block ?_
  refine W.loopS (X := (Nat) × (List Int) × (Option Addr) × (Nat) × (Int)) (fun (x : (Nat) × (List Int) × (Option Addr) × (Nat) × (Int)) => match x with | (i, ys, oa, oc, ah) => (i ≤ s.Raw.length ∧ (ys ++ encRaw ah (s.Raw.drop i) = encM s ∧ ys.length ≤ 8000 + 10 * i ∧ (-2305844108725321728 ≤ ah ∧ ah ≤ 2305844108725321728)) : Prop)) (fun (x : (Nat) × (List Int) × (Option Addr) × (Nat) × (Int)) => match x with | (i, ys, oa, oc, ah) => ([(37, .int .i64 (i : Int)), (6, .int .i64 ah)] : Env)) (fun (x : (Nat) × (List Int) × (Option Addr) × (Nat) × (Int)) => match x with | (i, ys, oa, oc, ah) => ([.cell b3 [.slice oa ys.length oc] 314, rowI 1 encU8 ys oa oc] : List Res)) (fun (x : (Nat) × (List Int) × (Option Addr) × (Nat) × (Int)) => match x with | (i, ys, oa, oc, ah) => (s.Raw.length - i : Nat)) (0, [s.Kind] ++ vbU s.Err ++ (vbU (s.Runs.length : Int) ++ encRuns 0 s.Runs) ++ encLine s.Kind s.Line, _, _, 0) [(2, _), (3, _), (5, _), (35, _), (36, _)] (by exact ⟨Nat.zero_le _, by simp [encM, List.append_assoc], by simp; omega, by decide, by decide⟩) (Le.cons rfl (Le.cons rfl (Le.cons rfl (Le.cons rfl (Le.cons rfl (Le.cons rfl (Le.cons rfl (Le.nil _)))))))) (by repeat constructor) ?_
  rintro ⟨i, ys, oa, oc, ah⟩ ⟨hi, hinv⟩
  show W _ _ _ _ _ _ ([(37, .int .i64 (i : Int)), (6, .int .i64 ah)] ++ _) _ ([.cell b3 [.slice oa ys.length oc] 314, rowI 1 encU8 ys oa oc] ++ _)
  obtain ⟨i1, i2, i3⟩ := hinv
  refine Wr ?_
  refine Oy rfl (Yl.lss rfl rfl) ?_
  refine OW.nil ?_
  refine W.seq ?_
  refine W.cond rfl (fun hq2 => ?_) (fun hq2 => ?_)
  ·have hq2d := of_decide_eq_true hq2
   obtain ⟨y, hy, hdr⟩ := drop_at (l := s.Raw) (i := i) (by omega)
   rw [hdr] at i1
   have hyb := hbd y (List.mem_of_getElem? hy)
   have hv1 := vbU_len (zig (y - ah))
   refine W.skip ?_
   refine W.seq ?_
   refine W.block ?_
   refine Wr ?_
   refine OW.fact (Sl.isSome (a := xwa) (by repeat constructor) (by omega)) ?_
   rintro ⟨p1, hp1⟩; try dsimp only at hp1
   subst hp1
   refine Oy rfl (Yl.indexS i ⟨Tryz.underlying51, Tryz.sizeOf2⟩ rfl rfl rfl (by omega)) ?_
   refine Oy rfl (Yl.loadS0 Tryz.isAgg2 rfl (by repeat constructor) (map_at hy) (by repeat constructor)) ?_
   refine Oy rfl (Yl.assign rfl) ?_
   refine OW.nil ?_
   refine Wr ?_
   refine Oy rfl (Yl.move rfl) ?_
   refine Oy rfl (Yl.move rfl) ?_
   refine Oy rfl (Yl.move rfl) ?_
   refine Oy rfl (Yl.sub rfl rfl (by omega)) ?_
   refine OW.call (Wn.plain rfl) rfl rfl rfl (FnC.tri0 Tryz.call230 (c_wsigned _ ys _ _ (y - ah) (by omega) (by omega) (by omega))) (by repeat constructor) ?_
   rintro _ _ ⟨rfl, oa5, oc5, rfl⟩
   refine OW.nil ?_
   refine W.region ?_
   refine Oy rfl (Yl.move rfl) ?_
   refine Oy rfl (Yl.assign rfl) ?_
   refine OW.nil ?_
   refine W.region ?_
   refine Oy rfl (Yl.add rfl rfl (by omega)) ?_
   refine Oy rfl (Yl.move rfl) ?_
   refine OW.nil ?_
   refine ⟨(i + 1, ys ++ vbU (zig (y - ah)), _, _, y), _, ⟨by omega, ?_⟩, (Le.cons rfl (Le.cons rfl (Le.cons rfl (Le.cons rfl (Le.cons rfl (Le.cons rfl (Le.cons rfl (Le.nil _)))))))), rfl, by repeat constructor, by repeat constructor, by first | omega | (dsimp only; omega)⟩
   exact ⟨by rw [← i1]; simp [encRaw, List.append_assoc], by simp; omega, hyb⟩
  ·have hq2d := of_decide_eq_false hq2
   rw [drop_end (by omega)] at i1
   simp only [encRaw, List.append_nil] at i1
   subst i1
   refine W.exit ?_
   refine Wr ?_
   refine Oy rfl (Yl.move rfl) ?_
   refine Oy rfl (Yl.nilCheck rfl) ?_
   refine Oy rfl (Yl.fieldL 0 (fa_314_0) rfl rfl) ?_
   refine Oy rfl (Yl.load1 Tryz.isAgg236 rfl (by repeat constructor) (by repeat constructor)) ?_
   refine Oy rfl (Yl.assign rfl) ?_
   refine Oy rfl (Yl.assign rfl) ?_
   refine OW.nil ?_
   refine W.ret ?_
   rw [if_pos hr]
   exact Fin.mk (Rsl.two rfl rfl rfl) ⟨_, _, rfl, rfl⟩ (by repeat constructor) (by repeat constructor)
end Go.Yb
