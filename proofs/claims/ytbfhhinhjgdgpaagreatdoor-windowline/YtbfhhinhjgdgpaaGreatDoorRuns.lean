/-
  A part of the proof of windowLine_holds: see the text that holds it. No conditions of its own.
-/
import Derived.Test.YtbfhhinhjgdgpaaGreatDoorPan
import Derived.Test.YtbfhhinhjgdgpaaGreatDoorRunsM
import Derived.WideLaws
import Derived.LaidEql
namespace Go.Yb
open Go Go.Proofs Go.RowKit


theorem rises_f1 {p : Option Rn} {r : Rn} {rs : List Rn} (h : runA r = false) : risesL p (r :: rs) = false := by simp [risesL, h]
theorem rises_f2 {p : Option Rn} {r : Rn} {rs : List Rn} (h : runB r rs.isEmpty = false) : risesL p (r :: rs) = false := by simp [risesL, h]
theorem rises_f3 {p : Option Rn} {r : Rn} {rs : List Rn} (h : runC p r = false) : risesL p (r :: rs) = false := by simp [risesL, h]
theorem rises_n {l : List Rn} (h : risesL none l = false) : risesM l = false := by simp [risesM, h]
theorem rises_len {l : List Rn} (h : ¬ (0 < l.length ∧ l.length ≤ 256)) : risesM l = false := by simp only [risesM, h, decide_false, Bool.false_and]
def prevR (l : List Rn) : Nat → Option Rn
  | 0 => none
  | i + 1 => l[i]?
theorem prevR_at {l : List Rn} {i : Nat} {y : Rn} (h : l[i]? = some y) : prevR l (i + 1) = some y := h
theorem manyR_at {l : List Rn} {i : Nat} {y : Rn} (h : l[i]? = some y) : manyR (l.take (i + 1)) = manyR (l.take i) + y.Count := by
 rw [take_at h, manyR_app]; simp [manyR]
theorem empty_at {l : List Rn} {i : Nat} (h : i < l.length) : (l.drop (i + 1)).isEmpty = decide ((i : Int) = (l.length : Int) - 1) := by
 by_cases he : i + 1 = l.length
 ·have : l.drop (i + 1) = [] := List.drop_eq_nil_of_le (by omega)
  rw [this]; simp; omega
 ·have h2 : 0 < (l.drop (i + 1)).length := by simp; omega
  cases hd : l.drop (i + 1) with
  | nil => rw [hd] at h2; simp at h2
  | cons a b => simp; omega

theorem c_rlast (r : Rn) (h : runA r = true) : FnV Tryz.prog 152 #[.agg (encR r).toArray] [] (.int .i64 (lastR r)) := by
 refine FnC.go (m := 12) Tryz.func152 Tryz.ntmps152 rfl (Nat.le_of_ble_eq_true rfl) (fun Lf => ?_)
 have h1 := runA_t h
 have h2 := runA_mul (k := r.Count - 1) h (by omega) (by omega)
 refine Wr ?_
 refine OW.box (Wn.plain rfl) rfl rfl (by constructor) (fun b1 => ?_)
 refine Oy rfl (Yl.assign rfl) ?_
 refine OW.nil ?_
 refine Wr ?_
 refine Oy rfl (Yl.fieldL 0 (fa_96_0) rfl rfl) ?_
 refine Oy rfl (Yl.load1 Tryz.isAgg2 rfl (by repeat constructor) (by repeat constructor)) ?_
 refine Oy rfl (Yl.fieldL 1 (fa_96_1) rfl rfl) ?_
 refine Oy rfl (Yl.load1 Tryz.isAgg2 rfl (by repeat constructor) (by repeat constructor)) ?_
 refine Oy rfl (Yl.fieldL 2 (fa_96_2) rfl rfl) ?_
 refine Oy rfl (Yl.load1 Tryz.isAgg3 rfl (by repeat constructor) (by repeat constructor)) ?_
 refine Oy rfl (Yl.sub rfl rfl (by omega)) ?_
 refine Oy rfl (Yl.mul rfl rfl (by omega)) ?_
 refine Oy rfl (Yl.add rfl rfl (by omega)) ?_
 refine Oy rfl (Yl.assign rfl) ?_
 refine OW.nil ?_
 refine W.ret ?_
 refine Fin.mk (Rsl.one rfl rfl) ⟨?_, rfl⟩ (by repeat constructor) (by repeat constructor)
 rfl

theorem c_sure_t (b : Bool) (hb : b = true) : FnV Tryz.prog 167 #[.bool b] [] (.tuple #[]) := by
 subst hb
 refine FnC.go (m := 5) Tryz.func167 Tryz.ntmps167 rfl (Nat.le_of_ble_eq_true rfl) (fun Lf => ?_)
 refine Wr ?_
 refine Oy rfl (Yl.move rfl) ?_
 refine Oy rfl (Yl.not rfl) ?_
 refine OW.nil ?_
 refine W.cond_f1 rfl rfl ?_
 refine W.skip ?_
 refine Fin.mk (Rsl.none rfl) ⟨?_, rfl⟩ (by repeat constructor) (by repeat constructor)
 rfl
def SureP : Ending → List Res → Prop := fun e L' => e = .panicked [{ v := .iface 26 (.int .i64 170), recovered := false }] ∧ L' = []
theorem c_sure_f (b : Bool) (hb : b = false) : FnP Tryz.prog 167 #[.bool b] [] SureP := by
 subst hb
 refine FnP.go (m := 5) Tryz.func167 Tryz.ntmps167 rfl (Nat.le_of_ble_eq_true rfl) (fun Lf => ?_)
 refine W2.seq ?_
 refine W2.region ?_
 refine OW2.yl (Wn.plain rfl) rfl (Yl.move rfl) ?_
 refine OW2.yl (Wn.plain rfl) rfl (Yl.not rfl) ?_
 refine OW2.nil ?_
 refine W2.cond_t1 rfl rfl ?_
 refine W2.region ?_
 refine OW2.yl (Wn.plain rfl) rfl (Yl.iface (by kernel_rfl) rfl) ?_
 refine OW2.panic (Wn.plain rfl) rfl ?_
 exact ⟨[], rfl, ⟨rfl, rfl⟩, Drops.of (by repeat constructor)⟩

theorem eqGuard_held {op : BinOp} {t u : TypeId} {x y : Operand} (v : Value) : eqGuard op t x y (.iface u v) .nilIface = pure () := by cases op <;> rfl
theorem d_rises_r (b : Nat) (x : Value) : DeferR Tryz.prog 166 #[.pointer (some ⟨b, 0, none⟩)] [.cell b [x] 4] := fun Lf κ w hs => by
  refine callsDIn_of_wpSIn Tryz.func166 rfl trivial fun c₀ cs hu => ?_
  have hi : Tryz.prog.underlying 20 = some (.interface (Tryz.prog.methodsAt 20)) := by kernel_rfl
  have hneq := run_neq_nil_nil (P := Tryz.prog) (w := w) 20 hi
  refine wpSIn_seq ?_
  refine wpSIn_region ?_
  simp [wpOpsSIn, recoverD, hu, Tryz.ntmps166, execOp, resolve, invoke, builtin, Region.wanted, Exit.thenS, List.range, List.range.loop, Act.eval, Act.put, eqGuard_nil_constR, hneq]
  refine ⟨fun _ _ => trivial, fun _ _ => trivial, ?_⟩
  refine wpSIn_cond (t := false) (by simp [Act.eval]) ?_
  refine wpSIn_of_wpIn rfl ?_
  refine wpIn_skip ?_
  refine ⟨rfl, .returning, by rw [← hu], .tuple #[], by simp [results, Tryz.results166], ⟨⟨_, rfl⟩, rfl, hs⟩⟩
theorem d_rises_p (b : Nat) (x : Value) : DeferP Tryz.prog 166 #[.pointer (some ⟨b, 0, none⟩)] [.cell b [x] 4] [.cell b [.bool false] 4] := fun t y Lf κ w hs => by
 refine callsDIn_of_wpSIn Tryz.func166 rfl trivial fun c₀ cs hu => ?_
 have hi : Tryz.prog.underlying 20 = some (.interface (Tryz.prog.methodsAt 20)) := by kernel_rfl
 have hneq := run_neq_held_nil (P := Tryz.prog) (w := w) 20 t y hi
 refine wpSIn_seq ?_
 refine wpSIn_region ?_
 simp [wpOpsSIn, recoverD, hu, Tryz.ntmps166, execOp, resolve, invoke, builtin, Region.wanted, Exit.thenS, List.range, List.range.loop, Act.eval, Act.put, eqGuard_held, hneq]
 refine ⟨fun _ _ => trivial, fun _ _ => trivial, ?_⟩
 refine wpSIn_cond (t := true) (by simp [Act.eval]) ?_
 simp only [if_true]
 refine wpSIn_of_wpIn rfl ?_
 have h : W Tryz.prog none 3 (.region 1 #[{ dst := none, op := Op.store 4 (Operand.tmp 0) (Operand.const (Value.bool false)), type := 0, pos := "runs.go:25", after := #[], guard := none }] false) (fun e ds L => ds = [] ∧ L = .cell b [.bool false] 4 :: Lf) (fun _ _ _ _ => False) [(0, .pointer (some ⟨b, 0, none⟩))] [] (.cell b [x] 4 :: Lf) := by
  refine W.region ?_
  refine OW.store (Wn.plain rfl) Tryz.sizeOf4 rfl rfl (by constructor) (by repeat constructor) rfl (by repeat constructor) (by repeat constructor) ?_
  exact OW.nil ⟨rfl, rfl⟩
 refine wpIn_mono (h κ w _ ?_ hs) fun ex a' w' q => ?_
 ·refine ⟨by simp, rfl, fun t v ht => ?_⟩
  simp only [Env.get] at ht
  cases hb : Nat.beq 0 t with
  | true =>
   have : 0 = t := Nat.eq_of_beq_eq_true hb
   subst this
   simpa using ht
  | false => rw [hb] at ht; simp at ht
 ·cases ex with
  | normal =>
   obtain ⟨e', ds', L', h1, h2, h3, h4⟩ := q
   subst h3 h4
   exact ⟨h1.2.1, _, rfl, .tuple #[], by simp [results, Tryz.results166], ⟨⟨_, rfl⟩, rfl, h2⟩⟩
  | panic _ => exact q.elim
  | outgrown => exact q.elim
  | exit j => obtain ⟨_, _, _, _, _, h⟩ := q; exact h.elim
  | goto j => obtain ⟨_, _, _, _, _, h⟩ := q; exact h.elim
  | ret => obtain ⟨_, _, _, _, _, h⟩ := q; exact h.elim


theorem runB_f1 {r : Rn} {e : Bool} (h : (decide (r.Count = 1) == decide (r.Step = 0)) = false) : runB r e = false := by simp only [runB, h, Bool.false_and]
theorem runB_f2 {r : Rn} {e : Bool} (h1 : ¬ 1 < r.Count) (h2 : e = false) : runB r e = false := by simp [runB, h1, h2]
theorem runB_f3 {r : Rn} {e : Bool} (h : ¬ lastR r ≤ 281474976710656) : runB r e = false := by simp only [runB, h, decide_false, Bool.and_false]
theorem runB_t {r : Rn} {e : Bool} (h1 : (decide (r.Count = 1) == decide (r.Step = 0)) = true) (h2 : 1 < r.Count ∨ e = true) (h3 : lastR r ≤ 281474976710656) : runB r e = true := by
 simp only [runB, h1, h3, decide_true, Bool.and_true, Bool.true_and, Bool.or_eq_true, decide_eq_true_eq]; exact h2
theorem runC_f {p : Option Rn} {q r : Rn} (hp : p = some q) (h : ¬ (0 < r.From - lastR q ∧ r.From - lastR q ≠ q.Step)) : runC p r = false := by
 subst hp
 simp only [runC]
 by_cases h1 : 0 < r.From - lastR q
 ·rw [decide_eq_false (p := r.From - lastR q ≠ q.Step) (by omega), Bool.and_false]
 ·rw [decide_eq_false h1, Bool.false_and]
theorem runC_t {p : Option Rn} {q r : Rn} (hp : p = some q) (h : 0 < r.From - lastR q ∧ r.From - lastR q ≠ q.Step) : runC p r = true := by
 subst hp; simp only [runC, decide_eq_true h.1, decide_eq_true h.2, Bool.and_self]
theorem prevR_pos {l : List Rn} {i : Nat} {z : Rn} (h : 0 < i) (hz : l[i - 1]? = some z) : prevR l i = some z := by
 cases i with
 | zero => omega
 | succ i => simpa [prevR] using hz
theorem mem_take_at {l : List Rn} {i : Nat} {z : Rn} (h : 0 < i) (hz : l[i - 1]? = some z) : z ∈ l.take i := by
 have : (l.take i)[i - 1]? = some z := by rw [List.getElem?_take_of_lt (by omega)]; exact hz
 exact List.mem_of_getElem? this
theorem lastR_in {r : Rn} (h : runA r = true) : 0 ≤ lastR r := by
 have h1 := runA_t h
 have h2 := runA_mul (k := r.Count - 1) h (by omega) (by omega)
 unfold lastR; omega
theorem rises_go {p : Option Rn} {r : Rn} {rs : List Rn} (h1 : runA r = true) (h2 : runB r rs.isEmpty = true) (h3 : runC p r = true) : risesL p (r :: rs) = risesL (some r) rs := by simp [risesL, h1, h2, h3]
theorem rises_end {l : List Rn} {m : Int} (h1 : 0 < l.length ∧ l.length ≤ 256) (h2 : risesL none l = true) (h3 : m = manyR l) : decide (m ≤ 256) = risesM l := by simp [risesM, h1, h2, h3]

theorem c_rises (l : List Rn) (a : Option Addr) (c : Nat) : FnV Tryz.prog 106 #[.slice a l.length c] [rowI 3 encR l a c] (.bool (risesM l)) := by
 refine FnC.goD (m := 109) Tryz.func106 Tryz.ntmps106 rfl (Nat.le_of_ble_eq_true rfl) (fun Lf => ?_)
 refine W2.seq ?_
 refine W2.region ?_
 refine OW2.alloc (Wn.plain rfl) rfl Tryz.zeroValue4 (by constructor) (fun b1 => ?_)
 refine OW2.nil ?_
 refine W2.seq ?_
 refine W2.region ?_
 refine OW2.yl (Wn.plain rfl) rfl (Yl.makeFunc rfl rfl) ?_
 refine OW2.defer rfl (Wn.plain rfl) rfl ?_
 refine OW2.nil ?_
 refine W2.seq ?_
 refine W2.region ?_
 refine OW2.yl (Wn.plain rfl) rfl (Yl.move rfl) ?_
 refine OW2.yl (Wn.plain rfl) rfl (Yl.len ⟨Tryz.underlying50, Tryz.sizeOf96⟩ rfl) ?_
 refine OW2.yl (Wn.plain rfl) rfl (Yl.gtr rfl rfl) ?_
 refine OW2.yl (Wn.plain rfl) rfl (Yl.move rfl) ?_
 refine OW2.split (t := 11) rfl (fun hq1 => ?_) (fun hq1 => ?_)
 ·have hq1d := of_decide_eq_true hq1
  refine OW2.yl (Wn.run rfl rfl rfl hq1) rfl (Yl.move rfl) ?_
  refine OW2.yl (Wn.run rfl rfl rfl hq1) rfl (Yl.len ⟨Tryz.underlying50, Tryz.sizeOf96⟩ rfl) ?_
  refine OW2.yl (Wn.run rfl rfl rfl hq1) rfl (Yl.leq rfl rfl) ?_
  refine OW2.yl (Wn.plain rfl) rfl (Yl.pick_true rfl hq1 rfl) ?_
  refine OW2.split (t := 15) rfl (fun hq2 => ?_) (fun hq2 => ?_)
  ·have hq2d := of_decide_eq_true hq2
   refine OW2.callv (Wn.plain rfl) rfl Tryz.call167 rfl (c_sure_t _ hq2) (by repeat constructor) ?_
   refine OW2.nil ?_
   refine W2.seq ?_
   refine W2.region ?_
   refine OW2.yl (Wn.plain rfl) rfl (Yl.assign rfl) ?_
   refine OW2.nil ?_
   refine W2.seq ?_
   refine W2.seq ?_
   refine W2.region ?_
   refine OW2.yl (Wn.plain rfl) rfl (Yl.move rfl) ?_
   refine OW2.yl (Wn.plain rfl) rfl (Yl.len ⟨Tryz.underlying50, Tryz.sizeOf96⟩ rfl) ?_
   refine OW2.yl (Wn.plain rfl) rfl (Yl.move rfl) ?_
   refine OW2.nil ?_
   refine W2.block ?_
   refine W2.loopS (X := (Nat) × (Int)) (fun (x : (Nat) × (Int)) => match x with | (i, m) => (i ≤ l.length ∧ (risesL none l = risesL (prevR l i) (l.drop i) ∧ m = manyR (l.take i) ∧ (0 ≤ m ∧ m ≤ 256 * (i : Int)) ∧ ∀ r ∈ l.take i, runA r = true ∧ lastR r ≤ 281474976710656) : Prop)) (fun (x : (Nat) × (Int)) => match x with | (i, m) => ([(19, .int .i64 (i : Int)), (3, .int .i64 m)] : Env)) (fun (x : (Nat) × (Int)) => match x with | (i, m) => ([.cell b1 [.bool false] 4] : List Res)) (fun (x : (Nat) × (Int)) => match x with | (i, m) => (l.length - i : Nat)) (0, 0) [(0, _), (2, _), (17, _), (18, _)] (by exact ⟨Nat.zero_le _, rfl, rfl, by simp, fun r hr => by simp at hr⟩) (Le.cons rfl (Le.cons rfl (Le.cons rfl (Le.cons rfl (Le.cons rfl (Le.cons rfl (Le.nil _))))))) (by repeat constructor) ?_
   rintro ⟨i, m⟩ ⟨hi, hinv⟩
   show W2 _ _ _ _ _ _ ([(19, .int .i64 (i : Int)), (3, .int .i64 m)] ++ _) _ ([.cell b1 [.bool false] 4] ++ _)
   obtain ⟨i1, i2, i3, i4⟩ := hinv
   refine W2.seq ?_
   refine W2.region ?_
   refine OW2.yl (Wn.plain rfl) rfl (Yl.lss rfl rfl) ?_
   refine OW2.nil ?_
   refine W2.seq ?_
   refine W2.cond rfl (fun hq3 => ?_) (fun hq3 => ?_)
   ·have hq3d := of_decide_eq_true hq3
    obtain ⟨y, hy, hdr⟩ := drop_at (l := l) (i := i) (by omega)
    rw [hdr] at i1
    refine W2.skip ?_
    refine W2.seq ?_
    refine W2.block ?_
    refine W2.seq ?_
    refine W2.region ?_
    refine OW2.yl (Wn.plain rfl) rfl (Yl.move rfl) ?_
    refine OW2.fact (Sl.isSome (by repeat constructor) (by omega)) ?_
    rintro ⟨p1, hp1⟩; try dsimp only at hp1
    subst hp1
    refine OW2.yl (Wn.plain rfl) rfl (Yl.indexS i ⟨Tryz.underlying50, Tryz.sizeOf96⟩ rfl rfl rfl (by omega)) ?_
    refine OW2.yl (Wn.plain rfl) rfl (Yl.loadE ⟨Tryz.isAgg96, Tryz.sizeOf96⟩ rfl (by repeat constructor) (map_at hy)) ?_
    refine OW2.alloc (Wn.plain rfl) rfl Tryz.zeroValue96 (by constructor) (fun b2 => ?_)
    refine OW2.yl (Wn.plain rfl) rfl (Yl.assign rfl) ?_
    refine OW2.store (Wn.plain rfl) Tryz.sizeOf96 rfl rfl (by constructor) (by repeat constructor) rfl (by repeat constructor) (by repeat constructor) ?_
    refine OW2.nil ?_
    refine W2.seq ?_
    refine W2.region ?_
    refine OW2.yl (Wn.plain rfl) rfl (Yl.fieldL 2 (fa_96_2) rfl rfl) ?_
    refine OW2.yl (Wn.plain rfl) rfl (Yl.load1 Tryz.isAgg3 rfl (by repeat constructor) (by repeat constructor)) ?_
    refine OW2.yl (Wn.plain rfl) rfl (Yl.geq rfl rfl) ?_
    refine OW2.yl (Wn.plain rfl) rfl (Yl.move rfl) ?_
    refine OW2.split (t := 27) rfl (fun hq4 => ?_) (fun hq4 => ?_)
    ·have hq4d := of_decide_eq_true hq4
     refine OW2.yl (Wn.run rfl rfl rfl hq4) rfl (Yl.fieldL 2 (fa_96_2) rfl rfl) ?_
     refine OW2.yl (Wn.run rfl rfl rfl hq4) rfl (Yl.load1 Tryz.isAgg3 rfl (by repeat constructor) (by repeat constructor)) ?_
     refine OW2.yl (Wn.run rfl rfl rfl hq4) rfl (Yl.leq rfl rfl) ?_
     refine OW2.yl (Wn.plain rfl) rfl (Yl.pick_true rfl hq4 rfl) ?_
     refine OW2.yl (Wn.plain rfl) rfl (Yl.move rfl) ?_
     refine OW2.split (t := 32) rfl (fun hq5 => ?_) (fun hq5 => ?_)
     ·have hq5d := of_decide_eq_true hq5
      refine OW2.yl (Wn.run rfl rfl rfl hq5) rfl (Yl.fieldL 0 (fa_96_0) rfl rfl) ?_
      refine OW2.yl (Wn.run rfl rfl rfl hq5) rfl (Yl.load1 Tryz.isAgg2 rfl (by repeat constructor) (by repeat constructor)) ?_
      refine OW2.yl (Wn.run rfl rfl rfl hq5) rfl (Yl.geq rfl rfl) ?_
      refine OW2.yl (Wn.plain rfl) rfl (Yl.pick_true rfl hq5 rfl) ?_
      refine OW2.yl (Wn.plain rfl) rfl (Yl.move rfl) ?_
      refine OW2.split (t := 37) rfl (fun hq6 => ?_) (fun hq6 => ?_)
      ·have hq6d := of_decide_eq_true hq6
       refine OW2.yl (Wn.run rfl rfl rfl hq6) rfl (Yl.fieldL 0 (fa_96_0) rfl rfl) ?_
       refine OW2.yl (Wn.run rfl rfl rfl hq6) rfl (Yl.load1 Tryz.isAgg2 rfl (by repeat constructor) (by repeat constructor)) ?_
       refine OW2.yl (Wn.run rfl rfl rfl hq6) rfl (Yl.leq rfl rfl) ?_
       refine OW2.yl (Wn.plain rfl) rfl (Yl.pick_true rfl hq6 rfl) ?_
       refine OW2.yl (Wn.plain rfl) rfl (Yl.move rfl) ?_
       refine OW2.split (t := 42) rfl (fun hq7 => ?_) (fun hq7 => ?_)
       ·have hq7d := of_decide_eq_true hq7
        refine OW2.yl (Wn.run rfl rfl rfl hq7) rfl (Yl.fieldL 1 (fa_96_1) rfl rfl) ?_
        refine OW2.yl (Wn.run rfl rfl rfl hq7) rfl (Yl.load1 Tryz.isAgg2 rfl (by repeat constructor) (by repeat constructor)) ?_
        refine OW2.yl (Wn.run rfl rfl rfl hq7) rfl (Yl.geq rfl rfl) ?_
        refine OW2.yl (Wn.plain rfl) rfl (Yl.pick_true rfl hq7 rfl) ?_
        refine OW2.yl (Wn.plain rfl) rfl (Yl.move rfl) ?_
        refine OW2.split (t := 47) rfl (fun hq8 => ?_) (fun hq8 => ?_)
        ·have hq8d := of_decide_eq_true hq8
         refine OW2.yl (Wn.run rfl rfl rfl hq8) rfl (Yl.fieldL 1 (fa_96_1) rfl rfl) ?_
         refine OW2.yl (Wn.run rfl rfl rfl hq8) rfl (Yl.load1 Tryz.isAgg2 rfl (by repeat constructor) (by repeat constructor)) ?_
         refine OW2.yl (Wn.run rfl rfl rfl hq8) rfl (Yl.leq rfl rfl) ?_
         refine OW2.yl (Wn.plain rfl) rfl (Yl.pick_true rfl hq8 rfl) ?_
         refine OW2.split (t := 51) rfl (fun hq9 => ?_) (fun hq9 => ?_)
         ·have hq9d := of_decide_eq_true hq9
          refine OW2.callv (Wn.plain rfl) rfl Tryz.call167 rfl (c_sure_t _ hq9) (by repeat constructor) ?_
          refine OW2.nil ?_
          refine W2.seq ?_
          refine W2.region ?_
          refine OW2.yl (Wn.plain rfl) rfl (Yl.fieldL 2 (fa_96_2) rfl rfl) ?_
          refine OW2.yl (Wn.plain rfl) rfl (Yl.load1 Tryz.isAgg3 rfl (by repeat constructor) (by repeat constructor)) ?_
          refine OW2.yl (Wn.plain rfl) rfl (Yl.eql rfl rfl) ?_
          refine OW2.yl (Wn.plain rfl) rfl (Yl.fieldL 1 (fa_96_1) rfl rfl) ?_
          refine OW2.yl (Wn.plain rfl) rfl (Yl.load1 Tryz.isAgg2 rfl (by repeat constructor) (by repeat constructor)) ?_
          refine OW2.yl (Wn.plain rfl) rfl (Yl.eql rfl rfl) ?_
          refine OW2.yl (Wn.plain rfl) rfl (Yl.eqlb Tryz.underlying4 rfl rfl) ?_
          refine OW2.yl (Wn.plain rfl) rfl (Yl.move rfl) ?_
          refine OW2.split (t := 60) rfl (fun hq10 => ?_) (fun hq10 => ?_)
          ·refine OW2.yl (Wn.run rfl rfl rfl hq10) rfl (Yl.fieldL 2 (fa_96_2) rfl rfl) ?_
           refine OW2.yl (Wn.run rfl rfl rfl hq10) rfl (Yl.load1 Tryz.isAgg3 rfl (by repeat constructor) (by repeat constructor)) ?_
           refine OW2.yl (Wn.run rfl rfl rfl hq10) rfl (Yl.gtr rfl rfl) ?_
           refine OW2.yl (Wn.run rfl rfl rfl hq10) rfl (Yl.move rfl) ?_
           refine OW2.split (t := 64) rfl (fun hq11 => ?_) (fun hq11 => ?_)
           ·have hq11d := of_decide_eq_true hq11
            refine OW2.not (Wn.not rfl rfl rfl hq11) rfl ?_
            refine OW2.not (Wn.not rfl rfl rfl hq11) rfl ?_
            refine OW2.not (Wn.not rfl rfl rfl hq11) rfl ?_
            refine OW2.not (Wn.not rfl rfl rfl hq11) rfl ?_
            refine OW2.not (Wn.not rfl rfl rfl hq11) rfl ?_
            refine OW2.yl (Wn.run rfl rfl rfl hq10) rfl (Yl.pick_true rfl hq11 rfl) ?_
            refine OW2.yl (Wn.plain rfl) rfl (Yl.pick_true rfl hq10 rfl) ?_
            refine OW2.yl (Wn.plain rfl) rfl (Yl.move rfl) ?_
            refine OW2.yl (Wn.run rfl rfl rfl rfl) rfl (Yl.load ⟨Tryz.isAgg96, Tryz.sizeOf96⟩ rfl (by repeat constructor) (by repeat constructor)) ?_
            refine OW2.callv (Wn.run rfl rfl rfl rfl) rfl Tryz.call152 rfl (c_rlast _ (by first | assumption | exact decide_eq_true (by omega))) (by repeat constructor) ?_
            refine OW2.yl (Wn.run rfl rfl rfl rfl) rfl (Yl.leq rfl rfl) ?_
            refine OW2.yl (Wn.plain rfl) rfl (Yl.pick_true rfl rfl rfl) ?_
            refine OW2.split (t := 76) rfl (fun hq12 => ?_) (fun hq12 => ?_)
            ·have hq12d := of_decide_eq_true hq12
             refine OW2.callv (Wn.plain rfl) rfl Tryz.call167 rfl (c_sure_t _ hq12) (by repeat constructor) ?_
             refine OW2.nil ?_
             refine W2.seq ?_
             refine W2.seq ?_
             refine W2.region ?_
             refine OW2.yl (Wn.plain rfl) rfl (Yl.move rfl) ?_
             refine OW2.yl (Wn.plain rfl) rfl (Yl.gtr rfl rfl) ?_
             refine OW2.nil ?_
             refine W2.cond rfl (fun hq13 => ?_) (fun hq13 => ?_)
             ·have hq13d := of_decide_eq_true hq13
              obtain ⟨z, hz⟩ : ∃ z, l[i - 1]? = some z := ⟨_, List.getElem?_eq_getElem (by omega)⟩
              have hzm := i4 z (mem_take_at (by omega) hz)
              have hzA := hzm.1
              have hzB := hzm.2
              have hzC := lastR_in hzA
              refine W2.seq ?_
              refine W2.of ?_
              refine W.draw mixed ?_
              refine Aq (i := 0) rfl (Wn.plain rfl) rfl (fun _ => Yl.fieldL 0 (fa_96_0) rfl rfl) ?_
              refine Al (i := 1) rfl (Wn.plain rfl) rfl (by repeat constructor) (Yl.load1 Tryz.isAgg2 rfl .head (by repeat constructor)) ?_
              refine Aq (i := 2) rfl (Wn.plain rfl) rfl (fun _ => Yl.move rfl) ?_
              refine Aq (i := 3) rfl (Wn.plain rfl) rfl (fun _ => Yl.move rfl) ?_
              refine Aq (i := 4) rfl (Wn.plain rfl) rfl (fun _ => Yl.sub rfl rfl (by omega)) ?_
              refine Aq (i := 5) rfl (Wn.plain rfl) rfl (fun _ => Yl.indexS (i - 1) ⟨Tryz.underlying50, Tryz.sizeOf96⟩ rfl rfl (by omega) (by omega)) ?_
              refine Al (i := 6) rfl (Wn.plain rfl) rfl (by repeat constructor) (Yl.loadE ⟨Tryz.isAgg96, Tryz.sizeOf96⟩ rfl .head (map_at hz)) ?_
              refine AW.step (i := 7) rfl (by kernel_rfl) (Wn.plain rfl) rfl (Ex.call rfl rfl rfl (FnC.tri0 Tryz.call152 (c_rlast _ (by first | assumption | exact decide_eq_true (by omega)))) (by repeat constructor)) (.drop (by kernel_rfl) (.keep (by kernel_rfl) .nil)) ?_
              rintro _ _ ⟨_, ⟨rfl, rfl⟩, rfl⟩; refine ⟨by repeat constructor, ?_⟩
              refine Aq (i := 8) rfl (Wn.plain rfl) rfl (fun _ => Yl.sub rfl rfl (by omega)) ?_
              refine Aq (i := 9) rfl (Wn.plain rfl) rfl (fun _ => Yl.assign rfl) ?_
              refine AW.done (by kernel_rfl) ?_
              refine W2.region ?_
              refine OW2.yl (Wn.plain rfl) rfl (Yl.move rfl) ?_
              refine OW2.yl (Wn.plain rfl) rfl (Yl.gtr rfl rfl) ?_
              refine OW2.yl (Wn.plain rfl) rfl (Yl.move rfl) ?_
              refine OW2.split (t := 91) rfl (fun hq14 => ?_) (fun hq14 => ?_)
              ·have hq14d := of_decide_eq_true hq14
               refine OW2.yl (Wn.run rfl rfl rfl hq14) rfl (Yl.move rfl) ?_
               refine OW2.yl (Wn.run rfl rfl rfl hq14) rfl (Yl.move rfl) ?_
               refine OW2.yl (Wn.run rfl rfl rfl hq14) rfl (Yl.move rfl) ?_
               refine OW2.yl (Wn.run rfl rfl rfl hq14) rfl (Yl.sub rfl rfl (by omega)) ?_
               refine OW2.yl (Wn.run rfl rfl rfl hq14) rfl (Yl.indexS (i - 1) ⟨Tryz.underlying50, Tryz.sizeOf96⟩ rfl rfl (by omega) (by omega)) ?_
               refine OW2.yl (Wn.run rfl rfl rfl hq14) rfl (Yl.fieldA (fa_96_1) rfl) ?_
               refine OW2.yl (Wn.run rfl rfl rfl hq14) rfl (Yl.loadS Tryz.isAgg2 rfl (by repeat constructor) (map_at hz) (by repeat constructor)) ?_
               refine OW2.yl (Wn.run rfl rfl rfl hq14) rfl (Yl.neq rfl rfl) ?_
               refine OW2.yl (Wn.plain rfl) rfl (Yl.pick_true rfl hq14 rfl) ?_
               refine OW2.split (t := 100) rfl (fun hq15 => ?_) (fun hq15 => ?_)
               ·have hq15d := of_decide_eq_true hq15
                refine OW2.callv (Wn.plain rfl) rfl Tryz.call167 rfl (c_sure_t _ hq15) (by repeat constructor) ?_
                refine OW2.nil ?_
                refine W2.region ?_
                refine OW2.yl (Wn.plain rfl) rfl (Yl.move rfl) ?_
                refine OW2.yl (Wn.plain rfl) rfl (Yl.fieldL 2 (fa_96_2) rfl rfl) ?_
                refine OW2.yl (Wn.plain rfl) rfl (Yl.load1 Tryz.isAgg3 rfl (by repeat constructor) (by repeat constructor)) ?_
                refine OW2.yl (Wn.plain rfl) rfl (Yl.add rfl rfl (by omega)) ?_
                refine OW2.yl (Wn.plain rfl) rfl (Yl.assign rfl) ?_
                refine OW2.nil ?_
                refine W2.region ?_
                refine OW2.yl (Wn.plain rfl) rfl (Yl.add rfl rfl (by omega)) ?_
                refine OW2.yl (Wn.plain rfl) rfl (Yl.move rfl) ?_
                refine OW2.nil ?_
                refine ⟨(i + 1, m + y.Count), _, ⟨by omega, ?_⟩, (Le.cons rfl (Le.cons rfl (Le.cons rfl (Le.cons rfl (Le.cons rfl (Le.cons rfl (Le.nil _))))))), rfl, by repeat constructor, by repeat constructor, by first | omega | (dsimp only; omega)⟩
                have hA : runA y = true := decide_eq_true (by omega)
                have hB : runB y (l.drop (i + 1)).isEmpty = true := runB_t (by assumption) (by first | exact .inl (by omega) | (rw [empty_at (by omega)]; exact .inr (decide_eq_true (by omega)))) (by omega)
                have hC : runC (prevR l i) y = true := by first | exact runC_t (prevR_pos (by omega) hz) (by omega) | (have h0 : i = 0 := (by omega); subst h0; rfl)
                exact ⟨by rw [i1, rises_go hA hB hC, prevR_at hy], by rw [manyR_at hy, i2], by omega, fun r hr => by
                 rw [take_at hy] at hr
                 rcases List.mem_append.1 hr with hr | hr
                 ·exact i4 r hr
                 ·rw [List.mem_singleton.1 hr]; exact ⟨hA, by omega⟩⟩
               ·have hq15d := of_decide_eq_false hq15
                refine OW2.callP (Wn.plain rfl) rfl Tryz.call167 rfl (c_sure_f _ hq15) (by repeat constructor) (fun _ _ h => by cases h.1) (by rintro ch L' ⟨hch, rfl⟩; cases hch; have hfalse : risesM l = false := (by first | exact rises_len (by omega) | exact rises_n (by rw [i1]; exact rises_f1 (decide_eq_false (by omega))) | exact rises_n (by rw [i1]; exact rises_f2 (runB_f1 (by assumption))) | exact rises_n (by rw [i1]; exact rises_f2 (runB_f2 (by omega) (by rw [empty_at (by omega)]; exact decide_eq_false (by omega)))) | exact rises_n (by rw [i1]; exact rises_f2 (runB_f3 (by omega))) | exact rises_n (by rw [i1]; exact rises_f3 (runC_f (prevR_pos (by omega) hz) (by omega)))); exact PanD.mk Tryz.call166 (d_rises_p _ _) (by repeat constructor) (Rsl.of1 rfl (.cell1 Tryz.isAgg4 rfl (by repeat constructor) (by repeat constructor))) ⟨by rw [hfalse], rfl⟩ (by repeat constructor) (by repeat constructor))
              ·have hq14d := of_decide_eq_false hq14
               refine OW2.not (Wn.not rfl rfl rfl hq14) rfl ?_
               refine OW2.not (Wn.not rfl rfl rfl hq14) rfl ?_
               refine OW2.not (Wn.not rfl rfl rfl hq14) rfl ?_
               refine OW2.not (Wn.not rfl rfl rfl hq14) rfl ?_
               refine OW2.not (Wn.not rfl rfl rfl hq14) rfl ?_
               refine OW2.not (Wn.not rfl rfl rfl hq14) rfl ?_
               refine OW2.not (Wn.not rfl rfl rfl hq14) rfl ?_
               refine OW2.not (Wn.not rfl rfl rfl hq14) rfl ?_
               refine OW2.yl (Wn.plain rfl) rfl (Yl.pick_false rfl hq14 rfl) ?_
               refine OW2.callP (Wn.plain rfl) rfl Tryz.call167 rfl (c_sure_f _ rfl) (by repeat constructor) (fun _ _ h => by cases h.1) (by rintro ch L' ⟨hch, rfl⟩; cases hch; have hfalse : risesM l = false := (by first | exact rises_len (by omega) | exact rises_n (by rw [i1]; exact rises_f1 (decide_eq_false (by omega))) | exact rises_n (by rw [i1]; exact rises_f2 (runB_f1 (by assumption))) | exact rises_n (by rw [i1]; exact rises_f2 (runB_f2 (by omega) (by rw [empty_at (by omega)]; exact decide_eq_false (by omega)))) | exact rises_n (by rw [i1]; exact rises_f2 (runB_f3 (by omega))) | exact rises_n (by rw [i1]; exact rises_f3 (runC_f (prevR_pos (by omega) hz) (by omega)))); exact PanD.mk Tryz.call166 (d_rises_p _ _) (by repeat constructor) (Rsl.of1 rfl (.cell1 Tryz.isAgg4 rfl (by repeat constructor) (by repeat constructor))) ⟨by rw [hfalse], rfl⟩ (by repeat constructor) (by repeat constructor))
             ·have hq13d := of_decide_eq_false hq13
              refine W2.skip ?_
              refine W2.region ?_
              refine OW2.yl (Wn.plain rfl) rfl (Yl.move rfl) ?_
              refine OW2.yl (Wn.plain rfl) rfl (Yl.fieldL 2 (fa_96_2) rfl rfl) ?_
              refine OW2.yl (Wn.plain rfl) rfl (Yl.load1 Tryz.isAgg3 rfl (by repeat constructor) (by repeat constructor)) ?_
              refine OW2.yl (Wn.plain rfl) rfl (Yl.add rfl rfl (by omega)) ?_
              refine OW2.yl (Wn.plain rfl) rfl (Yl.assign rfl) ?_
              refine OW2.nil ?_
              refine W2.region ?_
              refine OW2.yl (Wn.plain rfl) rfl (Yl.add rfl rfl (by omega)) ?_
              refine OW2.yl (Wn.plain rfl) rfl (Yl.move rfl) ?_
              refine OW2.nil ?_
              refine ⟨(i + 1, m + y.Count), _, ⟨by omega, ?_⟩, (Le.cons rfl (Le.cons rfl (Le.cons rfl (Le.cons rfl (Le.cons rfl (Le.cons rfl (Le.nil _))))))), rfl, by repeat constructor, by repeat constructor, by first | omega | (dsimp only; omega)⟩
              have hA : runA y = true := decide_eq_true (by omega)
              have hB : runB y (l.drop (i + 1)).isEmpty = true := runB_t (by assumption) (by first | exact .inl (by omega) | (rw [empty_at (by omega)]; exact .inr (decide_eq_true (by omega)))) (by omega)
              have hC : runC (prevR l i) y = true := by first | exact runC_t (prevR_pos (by omega) hz) (by omega) | (have h0 : i = 0 := (by omega); subst h0; rfl)
              exact ⟨by rw [i1, rises_go hA hB hC, prevR_at hy], by rw [manyR_at hy, i2], by omega, fun r hr => by
               rw [take_at hy] at hr
               rcases List.mem_append.1 hr with hr | hr
               ·exact i4 r hr
               ·rw [List.mem_singleton.1 hr]; exact ⟨hA, by omega⟩⟩
            ·have hq12d := of_decide_eq_false hq12
             refine OW2.callP (Wn.plain rfl) rfl Tryz.call167 rfl (c_sure_f _ hq12) (by repeat constructor) (fun _ _ h => by cases h.1) (by rintro ch L' ⟨hch, rfl⟩; cases hch; have hfalse : risesM l = false := (by first | exact rises_len (by omega) | exact rises_n (by rw [i1]; exact rises_f1 (decide_eq_false (by omega))) | exact rises_n (by rw [i1]; exact rises_f2 (runB_f1 (by assumption))) | exact rises_n (by rw [i1]; exact rises_f2 (runB_f2 (by omega) (by rw [empty_at (by omega)]; exact decide_eq_false (by omega)))) | exact rises_n (by rw [i1]; exact rises_f2 (runB_f3 (by omega))) | exact rises_n (by rw [i1]; exact rises_f3 (runC_f (prevR_pos (by omega) hz) (by omega)))); exact PanD.mk Tryz.call166 (d_rises_p _ _) (by repeat constructor) (Rsl.of1 rfl (.cell1 Tryz.isAgg4 rfl (by repeat constructor) (by repeat constructor))) ⟨by rw [hfalse], rfl⟩ (by repeat constructor) (by repeat constructor))
           ·have hq11d := of_decide_eq_false hq11
            refine OW2.yl (Wn.run rfl rfl rfl hq11) rfl (Yl.move rfl) ?_
            refine OW2.yl (Wn.run rfl rfl rfl hq11) rfl (Yl.move rfl) ?_
            refine OW2.yl (Wn.run rfl rfl rfl hq11) rfl (Yl.len ⟨Tryz.underlying50, Tryz.sizeOf96⟩ rfl) ?_
            refine OW2.yl (Wn.run rfl rfl rfl hq11) rfl (Yl.sub rfl rfl (by omega)) ?_
            refine OW2.yl (Wn.run rfl rfl rfl hq11) rfl (Yl.eql rfl rfl) ?_
            refine OW2.yl (Wn.run rfl rfl rfl hq10) rfl (Yl.pick_false rfl hq11 rfl) ?_
            refine OW2.yl (Wn.plain rfl) rfl (Yl.pick_true rfl hq10 rfl) ?_
            refine OW2.yl (Wn.plain rfl) rfl (Yl.move rfl) ?_
            refine OW2.split (t := 72) rfl (fun hq16 => ?_) (fun hq16 => ?_)
            ·have hq16d := of_decide_eq_true hq16
             refine OW2.yl (Wn.run rfl rfl rfl hq16) rfl (Yl.load ⟨Tryz.isAgg96, Tryz.sizeOf96⟩ rfl (by repeat constructor) (by repeat constructor)) ?_
             refine OW2.callv (Wn.run rfl rfl rfl hq16) rfl Tryz.call152 rfl (c_rlast _ (by first | assumption | exact decide_eq_true (by omega))) (by repeat constructor) ?_
             refine OW2.yl (Wn.run rfl rfl rfl hq16) rfl (Yl.leq rfl rfl) ?_
             refine OW2.yl (Wn.plain rfl) rfl (Yl.pick_true rfl hq16 rfl) ?_
             refine OW2.split (t := 76) rfl (fun hq17 => ?_) (fun hq17 => ?_)
             ·have hq17d := of_decide_eq_true hq17
              refine OW2.callv (Wn.plain rfl) rfl Tryz.call167 rfl (c_sure_t _ hq17) (by repeat constructor) ?_
              refine OW2.nil ?_
              refine W2.seq ?_
              refine W2.seq ?_
              refine W2.region ?_
              refine OW2.yl (Wn.plain rfl) rfl (Yl.move rfl) ?_
              refine OW2.yl (Wn.plain rfl) rfl (Yl.gtr rfl rfl) ?_
              refine OW2.nil ?_
              refine W2.cond rfl (fun hq18 => ?_) (fun hq18 => ?_)
              ·have hq18d := of_decide_eq_true hq18
               obtain ⟨z, hz⟩ : ∃ z, l[i - 1]? = some z := ⟨_, List.getElem?_eq_getElem (by omega)⟩
               have hzm := i4 z (mem_take_at (by omega) hz)
               have hzA := hzm.1
               have hzB := hzm.2
               have hzC := lastR_in hzA
               refine W2.seq ?_
               refine W2.of ?_
               refine W.draw mixed ?_
               refine Aq (i := 0) rfl (Wn.plain rfl) rfl (fun _ => Yl.fieldL 0 (fa_96_0) rfl rfl) ?_
               refine Al (i := 1) rfl (Wn.plain rfl) rfl (by repeat constructor) (Yl.load1 Tryz.isAgg2 rfl .head (by repeat constructor)) ?_
               refine Aq (i := 2) rfl (Wn.plain rfl) rfl (fun _ => Yl.move rfl) ?_
               refine Aq (i := 3) rfl (Wn.plain rfl) rfl (fun _ => Yl.move rfl) ?_
               refine Aq (i := 4) rfl (Wn.plain rfl) rfl (fun _ => Yl.sub rfl rfl (by omega)) ?_
               refine Aq (i := 5) rfl (Wn.plain rfl) rfl (fun _ => Yl.indexS (i - 1) ⟨Tryz.underlying50, Tryz.sizeOf96⟩ rfl rfl (by omega) (by omega)) ?_
               refine Al (i := 6) rfl (Wn.plain rfl) rfl (by repeat constructor) (Yl.loadE ⟨Tryz.isAgg96, Tryz.sizeOf96⟩ rfl .head (map_at hz)) ?_
               refine AW.step (i := 7) rfl (by kernel_rfl) (Wn.plain rfl) rfl (Ex.call rfl rfl rfl (FnC.tri0 Tryz.call152 (c_rlast _ (by first | assumption | exact decide_eq_true (by omega)))) (by repeat constructor)) (.drop (by kernel_rfl) (.keep (by kernel_rfl) .nil)) ?_
               rintro _ _ ⟨_, ⟨rfl, rfl⟩, rfl⟩; refine ⟨by repeat constructor, ?_⟩
               refine Aq (i := 8) rfl (Wn.plain rfl) rfl (fun _ => Yl.sub rfl rfl (by omega)) ?_
               refine Aq (i := 9) rfl (Wn.plain rfl) rfl (fun _ => Yl.assign rfl) ?_
               refine AW.done (by kernel_rfl) ?_
               refine W2.region ?_
               refine OW2.yl (Wn.plain rfl) rfl (Yl.move rfl) ?_
               refine OW2.yl (Wn.plain rfl) rfl (Yl.gtr rfl rfl) ?_
               refine OW2.yl (Wn.plain rfl) rfl (Yl.move rfl) ?_
               refine OW2.split (t := 91) rfl (fun hq19 => ?_) (fun hq19 => ?_)
               ·have hq19d := of_decide_eq_true hq19
                refine OW2.yl (Wn.run rfl rfl rfl hq19) rfl (Yl.move rfl) ?_
                refine OW2.yl (Wn.run rfl rfl rfl hq19) rfl (Yl.move rfl) ?_
                refine OW2.yl (Wn.run rfl rfl rfl hq19) rfl (Yl.move rfl) ?_
                refine OW2.yl (Wn.run rfl rfl rfl hq19) rfl (Yl.sub rfl rfl (by omega)) ?_
                refine OW2.yl (Wn.run rfl rfl rfl hq19) rfl (Yl.indexS (i - 1) ⟨Tryz.underlying50, Tryz.sizeOf96⟩ rfl rfl (by omega) (by omega)) ?_
                refine OW2.yl (Wn.run rfl rfl rfl hq19) rfl (Yl.fieldA (fa_96_1) rfl) ?_
                refine OW2.yl (Wn.run rfl rfl rfl hq19) rfl (Yl.loadS Tryz.isAgg2 rfl (by repeat constructor) (map_at hz) (by repeat constructor)) ?_
                refine OW2.yl (Wn.run rfl rfl rfl hq19) rfl (Yl.neq rfl rfl) ?_
                refine OW2.yl (Wn.plain rfl) rfl (Yl.pick_true rfl hq19 rfl) ?_
                refine OW2.split (t := 100) rfl (fun hq20 => ?_) (fun hq20 => ?_)
                ·have hq20d := of_decide_eq_true hq20
                 refine OW2.callv (Wn.plain rfl) rfl Tryz.call167 rfl (c_sure_t _ hq20) (by repeat constructor) ?_
                 refine OW2.nil ?_
                 refine W2.region ?_
                 refine OW2.yl (Wn.plain rfl) rfl (Yl.move rfl) ?_
                 refine OW2.yl (Wn.plain rfl) rfl (Yl.fieldL 2 (fa_96_2) rfl rfl) ?_
                 refine OW2.yl (Wn.plain rfl) rfl (Yl.load1 Tryz.isAgg3 rfl (by repeat constructor) (by repeat constructor)) ?_
                 refine OW2.yl (Wn.plain rfl) rfl (Yl.add rfl rfl (by omega)) ?_
                 refine OW2.yl (Wn.plain rfl) rfl (Yl.assign rfl) ?_
                 refine OW2.nil ?_
                 refine W2.region ?_
                 refine OW2.yl (Wn.plain rfl) rfl (Yl.add rfl rfl (by omega)) ?_
                 refine OW2.yl (Wn.plain rfl) rfl (Yl.move rfl) ?_
                 refine OW2.nil ?_
                 refine ⟨(i + 1, m + y.Count), _, ⟨by omega, ?_⟩, (Le.cons rfl (Le.cons rfl (Le.cons rfl (Le.cons rfl (Le.cons rfl (Le.cons rfl (Le.nil _))))))), rfl, by repeat constructor, by repeat constructor, by first | omega | (dsimp only; omega)⟩
                 have hA : runA y = true := decide_eq_true (by omega)
                 have hB : runB y (l.drop (i + 1)).isEmpty = true := runB_t (by assumption) (by first | exact .inl (by omega) | (rw [empty_at (by omega)]; exact .inr (decide_eq_true (by omega)))) (by omega)
                 have hC : runC (prevR l i) y = true := by first | exact runC_t (prevR_pos (by omega) hz) (by omega) | (have h0 : i = 0 := (by omega); subst h0; rfl)
                 exact ⟨by rw [i1, rises_go hA hB hC, prevR_at hy], by rw [manyR_at hy, i2], by omega, fun r hr => by
                  rw [take_at hy] at hr
                  rcases List.mem_append.1 hr with hr | hr
                  ·exact i4 r hr
                  ·rw [List.mem_singleton.1 hr]; exact ⟨hA, by omega⟩⟩
                ·have hq20d := of_decide_eq_false hq20
                 refine OW2.callP (Wn.plain rfl) rfl Tryz.call167 rfl (c_sure_f _ hq20) (by repeat constructor) (fun _ _ h => by cases h.1) (by rintro ch L' ⟨hch, rfl⟩; cases hch; have hfalse : risesM l = false := (by first | exact rises_len (by omega) | exact rises_n (by rw [i1]; exact rises_f1 (decide_eq_false (by omega))) | exact rises_n (by rw [i1]; exact rises_f2 (runB_f1 (by assumption))) | exact rises_n (by rw [i1]; exact rises_f2 (runB_f2 (by omega) (by rw [empty_at (by omega)]; exact decide_eq_false (by omega)))) | exact rises_n (by rw [i1]; exact rises_f2 (runB_f3 (by omega))) | exact rises_n (by rw [i1]; exact rises_f3 (runC_f (prevR_pos (by omega) hz) (by omega)))); exact PanD.mk Tryz.call166 (d_rises_p _ _) (by repeat constructor) (Rsl.of1 rfl (.cell1 Tryz.isAgg4 rfl (by repeat constructor) (by repeat constructor))) ⟨by rw [hfalse], rfl⟩ (by repeat constructor) (by repeat constructor))
               ·have hq19d := of_decide_eq_false hq19
                refine OW2.not (Wn.not rfl rfl rfl hq19) rfl ?_
                refine OW2.not (Wn.not rfl rfl rfl hq19) rfl ?_
                refine OW2.not (Wn.not rfl rfl rfl hq19) rfl ?_
                refine OW2.not (Wn.not rfl rfl rfl hq19) rfl ?_
                refine OW2.not (Wn.not rfl rfl rfl hq19) rfl ?_
                refine OW2.not (Wn.not rfl rfl rfl hq19) rfl ?_
                refine OW2.not (Wn.not rfl rfl rfl hq19) rfl ?_
                refine OW2.not (Wn.not rfl rfl rfl hq19) rfl ?_
                refine OW2.yl (Wn.plain rfl) rfl (Yl.pick_false rfl hq19 rfl) ?_
                refine OW2.callP (Wn.plain rfl) rfl Tryz.call167 rfl (c_sure_f _ rfl) (by repeat constructor) (fun _ _ h => by cases h.1) (by rintro ch L' ⟨hch, rfl⟩; cases hch; have hfalse : risesM l = false := (by first | exact rises_len (by omega) | exact rises_n (by rw [i1]; exact rises_f1 (decide_eq_false (by omega))) | exact rises_n (by rw [i1]; exact rises_f2 (runB_f1 (by assumption))) | exact rises_n (by rw [i1]; exact rises_f2 (runB_f2 (by omega) (by rw [empty_at (by omega)]; exact decide_eq_false (by omega)))) | exact rises_n (by rw [i1]; exact rises_f2 (runB_f3 (by omega))) | exact rises_n (by rw [i1]; exact rises_f3 (runC_f (prevR_pos (by omega) hz) (by omega)))); exact PanD.mk Tryz.call166 (d_rises_p _ _) (by repeat constructor) (Rsl.of1 rfl (.cell1 Tryz.isAgg4 rfl (by repeat constructor) (by repeat constructor))) ⟨by rw [hfalse], rfl⟩ (by repeat constructor) (by repeat constructor))
              ·have hq18d := of_decide_eq_false hq18
               refine W2.skip ?_
               refine W2.region ?_
               refine OW2.yl (Wn.plain rfl) rfl (Yl.move rfl) ?_
               refine OW2.yl (Wn.plain rfl) rfl (Yl.fieldL 2 (fa_96_2) rfl rfl) ?_
               refine OW2.yl (Wn.plain rfl) rfl (Yl.load1 Tryz.isAgg3 rfl (by repeat constructor) (by repeat constructor)) ?_
               refine OW2.yl (Wn.plain rfl) rfl (Yl.add rfl rfl (by omega)) ?_
               refine OW2.yl (Wn.plain rfl) rfl (Yl.assign rfl) ?_
               refine OW2.nil ?_
               refine W2.region ?_
               refine OW2.yl (Wn.plain rfl) rfl (Yl.add rfl rfl (by omega)) ?_
               refine OW2.yl (Wn.plain rfl) rfl (Yl.move rfl) ?_
               refine OW2.nil ?_
               refine ⟨(i + 1, m + y.Count), _, ⟨by omega, ?_⟩, (Le.cons rfl (Le.cons rfl (Le.cons rfl (Le.cons rfl (Le.cons rfl (Le.cons rfl (Le.nil _))))))), rfl, by repeat constructor, by repeat constructor, by first | omega | (dsimp only; omega)⟩
               have hA : runA y = true := decide_eq_true (by omega)
               have hB : runB y (l.drop (i + 1)).isEmpty = true := runB_t (by assumption) (by first | exact .inl (by omega) | (rw [empty_at (by omega)]; exact .inr (decide_eq_true (by omega)))) (by omega)
               have hC : runC (prevR l i) y = true := by first | exact runC_t (prevR_pos (by omega) hz) (by omega) | (have h0 : i = 0 := (by omega); subst h0; rfl)
               exact ⟨by rw [i1, rises_go hA hB hC, prevR_at hy], by rw [manyR_at hy, i2], by omega, fun r hr => by
                rw [take_at hy] at hr
                rcases List.mem_append.1 hr with hr | hr
                ·exact i4 r hr
                ·rw [List.mem_singleton.1 hr]; exact ⟨hA, by omega⟩⟩
             ·have hq17d := of_decide_eq_false hq17
              refine OW2.callP (Wn.plain rfl) rfl Tryz.call167 rfl (c_sure_f _ hq17) (by repeat constructor) (fun _ _ h => by cases h.1) (by rintro ch L' ⟨hch, rfl⟩; cases hch; have hfalse : risesM l = false := (by first | exact rises_len (by omega) | exact rises_n (by rw [i1]; exact rises_f1 (decide_eq_false (by omega))) | exact rises_n (by rw [i1]; exact rises_f2 (runB_f1 (by assumption))) | exact rises_n (by rw [i1]; exact rises_f2 (runB_f2 (by omega) (by rw [empty_at (by omega)]; exact decide_eq_false (by omega)))) | exact rises_n (by rw [i1]; exact rises_f2 (runB_f3 (by omega))) | exact rises_n (by rw [i1]; exact rises_f3 (runC_f (prevR_pos (by omega) hz) (by omega)))); exact PanD.mk Tryz.call166 (d_rises_p _ _) (by repeat constructor) (Rsl.of1 rfl (.cell1 Tryz.isAgg4 rfl (by repeat constructor) (by repeat constructor))) ⟨by rw [hfalse], rfl⟩ (by repeat constructor) (by repeat constructor))
            ·have hq16d := of_decide_eq_false hq16
             refine OW2.not (Wn.not rfl rfl rfl hq16) rfl ?_
             refine OW2.not (Wn.not rfl rfl rfl hq16) rfl ?_
             refine OW2.not (Wn.not rfl rfl rfl hq16) rfl ?_
             refine OW2.yl (Wn.plain rfl) rfl (Yl.pick_false rfl hq16 rfl) ?_
             refine OW2.callP (Wn.plain rfl) rfl Tryz.call167 rfl (c_sure_f _ rfl) (by repeat constructor) (fun _ _ h => by cases h.1) (by rintro ch L' ⟨hch, rfl⟩; cases hch; have hfalse : risesM l = false := (by first | exact rises_len (by omega) | exact rises_n (by rw [i1]; exact rises_f1 (decide_eq_false (by omega))) | exact rises_n (by rw [i1]; exact rises_f2 (runB_f1 (by assumption))) | exact rises_n (by rw [i1]; exact rises_f2 (runB_f2 (by omega) (by rw [empty_at (by omega)]; exact decide_eq_false (by omega)))) | exact rises_n (by rw [i1]; exact rises_f2 (runB_f3 (by omega))) | exact rises_n (by rw [i1]; exact rises_f3 (runC_f (prevR_pos (by omega) hz) (by omega)))); exact PanD.mk Tryz.call166 (d_rises_p _ _) (by repeat constructor) (Rsl.of1 rfl (.cell1 Tryz.isAgg4 rfl (by repeat constructor) (by repeat constructor))) ⟨by rw [hfalse], rfl⟩ (by repeat constructor) (by repeat constructor))
          ·refine OW2.not (Wn.not rfl rfl rfl hq10) rfl ?_
           refine OW2.not (Wn.not rfl rfl rfl hq10) rfl ?_
           refine OW2.not (Wn.not rfl rfl rfl hq10) rfl ?_
           refine OW2.not (Wn.not rfl rfl rfl hq10) rfl ?_
           refine OW2.not (Wn.nob rfl rfl rfl) rfl ?_
           refine OW2.not (Wn.nob rfl rfl rfl) rfl ?_
           refine OW2.not (Wn.nob rfl rfl rfl) rfl ?_
           refine OW2.not (Wn.nob rfl rfl rfl) rfl ?_
           refine OW2.not (Wn.nob rfl rfl rfl) rfl ?_
           refine OW2.not (Wn.not rfl rfl rfl hq10) rfl ?_
           refine OW2.yl (Wn.plain rfl) rfl (Yl.pick_false rfl hq10 rfl) ?_
           refine OW2.yl (Wn.plain rfl) rfl (Yl.move rfl) ?_
           refine OW2.not (Wn.not rfl rfl rfl rfl) rfl ?_
           refine OW2.not (Wn.not rfl rfl rfl rfl) rfl ?_
           refine OW2.not (Wn.not rfl rfl rfl rfl) rfl ?_
           refine OW2.yl (Wn.plain rfl) rfl (Yl.pick_false rfl rfl rfl) ?_
           refine OW2.callP (Wn.plain rfl) rfl Tryz.call167 rfl (c_sure_f _ rfl) (by repeat constructor) (fun _ _ h => by cases h.1) (by rintro ch L' ⟨hch, rfl⟩; cases hch; have hfalse : risesM l = false := (by first | exact rises_len (by omega) | exact rises_n (by rw [i1]; exact rises_f1 (decide_eq_false (by omega))) | exact rises_n (by rw [i1]; exact rises_f2 (runB_f1 (by assumption))) | exact rises_n (by rw [i1]; exact rises_f2 (runB_f2 (by omega) (by rw [empty_at (by omega)]; exact decide_eq_false (by omega)))) | exact rises_n (by rw [i1]; exact rises_f2 (runB_f3 (by omega))) | exact rises_n (by rw [i1]; exact rises_f3 (runC_f (prevR_pos (by omega) hz) (by omega)))); exact PanD.mk Tryz.call166 (d_rises_p _ _) (by repeat constructor) (Rsl.of1 rfl (.cell1 Tryz.isAgg4 rfl (by repeat constructor) (by repeat constructor))) ⟨by rw [hfalse], rfl⟩ (by repeat constructor) (by repeat constructor))
         ·have hq9d := of_decide_eq_false hq9
          refine OW2.callP (Wn.plain rfl) rfl Tryz.call167 rfl (c_sure_f _ hq9) (by repeat constructor) (fun _ _ h => by cases h.1) (by rintro ch L' ⟨hch, rfl⟩; cases hch; have hfalse : risesM l = false := (by first | exact rises_len (by omega) | exact rises_n (by rw [i1]; exact rises_f1 (decide_eq_false (by omega))) | exact rises_n (by rw [i1]; exact rises_f2 (runB_f1 (by assumption))) | exact rises_n (by rw [i1]; exact rises_f2 (runB_f2 (by omega) (by rw [empty_at (by omega)]; exact decide_eq_false (by omega)))) | exact rises_n (by rw [i1]; exact rises_f2 (runB_f3 (by omega))) | exact rises_n (by rw [i1]; exact rises_f3 (runC_f (prevR_pos (by omega) hz) (by omega)))); exact PanD.mk Tryz.call166 (d_rises_p _ _) (by repeat constructor) (Rsl.of1 rfl (.cell1 Tryz.isAgg4 rfl (by repeat constructor) (by repeat constructor))) ⟨by rw [hfalse], rfl⟩ (by repeat constructor) (by repeat constructor))
        ·have hq8d := of_decide_eq_false hq8
         refine OW2.not (Wn.not rfl rfl rfl hq8) rfl ?_
         refine OW2.not (Wn.not rfl rfl rfl hq8) rfl ?_
         refine OW2.not (Wn.not rfl rfl rfl hq8) rfl ?_
         refine OW2.yl (Wn.plain rfl) rfl (Yl.pick_false rfl hq8 rfl) ?_
         refine OW2.callP (Wn.plain rfl) rfl Tryz.call167 rfl (c_sure_f _ rfl) (by repeat constructor) (fun _ _ h => by cases h.1) (by rintro ch L' ⟨hch, rfl⟩; cases hch; have hfalse : risesM l = false := (by first | exact rises_len (by omega) | exact rises_n (by rw [i1]; exact rises_f1 (decide_eq_false (by omega))) | exact rises_n (by rw [i1]; exact rises_f2 (runB_f1 (by assumption))) | exact rises_n (by rw [i1]; exact rises_f2 (runB_f2 (by omega) (by rw [empty_at (by omega)]; exact decide_eq_false (by omega)))) | exact rises_n (by rw [i1]; exact rises_f2 (runB_f3 (by omega))) | exact rises_n (by rw [i1]; exact rises_f3 (runC_f (prevR_pos (by omega) hz) (by omega)))); exact PanD.mk Tryz.call166 (d_rises_p _ _) (by repeat constructor) (Rsl.of1 rfl (.cell1 Tryz.isAgg4 rfl (by repeat constructor) (by repeat constructor))) ⟨by rw [hfalse], rfl⟩ (by repeat constructor) (by repeat constructor))
       ·have hq7d := of_decide_eq_false hq7
        refine OW2.not (Wn.not rfl rfl rfl hq7) rfl ?_
        refine OW2.not (Wn.not rfl rfl rfl hq7) rfl ?_
        refine OW2.not (Wn.not rfl rfl rfl hq7) rfl ?_
        refine OW2.yl (Wn.plain rfl) rfl (Yl.pick_false rfl hq7 rfl) ?_
        refine OW2.yl (Wn.plain rfl) rfl (Yl.move rfl) ?_
        refine OW2.not (Wn.not rfl rfl rfl rfl) rfl ?_
        refine OW2.not (Wn.not rfl rfl rfl rfl) rfl ?_
        refine OW2.not (Wn.not rfl rfl rfl rfl) rfl ?_
        refine OW2.yl (Wn.plain rfl) rfl (Yl.pick_false rfl rfl rfl) ?_
        refine OW2.callP (Wn.plain rfl) rfl Tryz.call167 rfl (c_sure_f _ rfl) (by repeat constructor) (fun _ _ h => by cases h.1) (by rintro ch L' ⟨hch, rfl⟩; cases hch; have hfalse : risesM l = false := (by first | exact rises_len (by omega) | exact rises_n (by rw [i1]; exact rises_f1 (decide_eq_false (by omega))) | exact rises_n (by rw [i1]; exact rises_f2 (runB_f1 (by assumption))) | exact rises_n (by rw [i1]; exact rises_f2 (runB_f2 (by omega) (by rw [empty_at (by omega)]; exact decide_eq_false (by omega)))) | exact rises_n (by rw [i1]; exact rises_f2 (runB_f3 (by omega))) | exact rises_n (by rw [i1]; exact rises_f3 (runC_f (prevR_pos (by omega) hz) (by omega)))); exact PanD.mk Tryz.call166 (d_rises_p _ _) (by repeat constructor) (Rsl.of1 rfl (.cell1 Tryz.isAgg4 rfl (by repeat constructor) (by repeat constructor))) ⟨by rw [hfalse], rfl⟩ (by repeat constructor) (by repeat constructor))
      ·have hq6d := of_decide_eq_false hq6
       refine OW2.not (Wn.not rfl rfl rfl hq6) rfl ?_
       refine OW2.not (Wn.not rfl rfl rfl hq6) rfl ?_
       refine OW2.not (Wn.not rfl rfl rfl hq6) rfl ?_
       refine OW2.yl (Wn.plain rfl) rfl (Yl.pick_false rfl hq6 rfl) ?_
       refine OW2.yl (Wn.plain rfl) rfl (Yl.move rfl) ?_
       refine OW2.not (Wn.not rfl rfl rfl rfl) rfl ?_
       refine OW2.not (Wn.not rfl rfl rfl rfl) rfl ?_
       refine OW2.not (Wn.not rfl rfl rfl rfl) rfl ?_
       refine OW2.yl (Wn.plain rfl) rfl (Yl.pick_false rfl rfl rfl) ?_
       refine OW2.yl (Wn.plain rfl) rfl (Yl.move rfl) ?_
       refine OW2.not (Wn.not rfl rfl rfl rfl) rfl ?_
       refine OW2.not (Wn.not rfl rfl rfl rfl) rfl ?_
       refine OW2.not (Wn.not rfl rfl rfl rfl) rfl ?_
       refine OW2.yl (Wn.plain rfl) rfl (Yl.pick_false rfl rfl rfl) ?_
       refine OW2.callP (Wn.plain rfl) rfl Tryz.call167 rfl (c_sure_f _ rfl) (by repeat constructor) (fun _ _ h => by cases h.1) (by rintro ch L' ⟨hch, rfl⟩; cases hch; have hfalse : risesM l = false := (by first | exact rises_len (by omega) | exact rises_n (by rw [i1]; exact rises_f1 (decide_eq_false (by omega))) | exact rises_n (by rw [i1]; exact rises_f2 (runB_f1 (by assumption))) | exact rises_n (by rw [i1]; exact rises_f2 (runB_f2 (by omega) (by rw [empty_at (by omega)]; exact decide_eq_false (by omega)))) | exact rises_n (by rw [i1]; exact rises_f2 (runB_f3 (by omega))) | exact rises_n (by rw [i1]; exact rises_f3 (runC_f (prevR_pos (by omega) hz) (by omega)))); exact PanD.mk Tryz.call166 (d_rises_p _ _) (by repeat constructor) (Rsl.of1 rfl (.cell1 Tryz.isAgg4 rfl (by repeat constructor) (by repeat constructor))) ⟨by rw [hfalse], rfl⟩ (by repeat constructor) (by repeat constructor))
     ·have hq5d := of_decide_eq_false hq5
      refine OW2.not (Wn.not rfl rfl rfl hq5) rfl ?_
      refine OW2.not (Wn.not rfl rfl rfl hq5) rfl ?_
      refine OW2.not (Wn.not rfl rfl rfl hq5) rfl ?_
      refine OW2.yl (Wn.plain rfl) rfl (Yl.pick_false rfl hq5 rfl) ?_
      refine OW2.yl (Wn.plain rfl) rfl (Yl.move rfl) ?_
      refine OW2.not (Wn.not rfl rfl rfl rfl) rfl ?_
      refine OW2.not (Wn.not rfl rfl rfl rfl) rfl ?_
      refine OW2.not (Wn.not rfl rfl rfl rfl) rfl ?_
      refine OW2.yl (Wn.plain rfl) rfl (Yl.pick_false rfl rfl rfl) ?_
      refine OW2.yl (Wn.plain rfl) rfl (Yl.move rfl) ?_
      refine OW2.not (Wn.not rfl rfl rfl rfl) rfl ?_
      refine OW2.not (Wn.not rfl rfl rfl rfl) rfl ?_
      refine OW2.not (Wn.not rfl rfl rfl rfl) rfl ?_
      refine OW2.yl (Wn.plain rfl) rfl (Yl.pick_false rfl rfl rfl) ?_
      refine OW2.yl (Wn.plain rfl) rfl (Yl.move rfl) ?_
      refine OW2.not (Wn.not rfl rfl rfl rfl) rfl ?_
      refine OW2.not (Wn.not rfl rfl rfl rfl) rfl ?_
      refine OW2.not (Wn.not rfl rfl rfl rfl) rfl ?_
      refine OW2.yl (Wn.plain rfl) rfl (Yl.pick_false rfl rfl rfl) ?_
      refine OW2.callP (Wn.plain rfl) rfl Tryz.call167 rfl (c_sure_f _ rfl) (by repeat constructor) (fun _ _ h => by cases h.1) (by rintro ch L' ⟨hch, rfl⟩; cases hch; have hfalse : risesM l = false := (by first | exact rises_len (by omega) | exact rises_n (by rw [i1]; exact rises_f1 (decide_eq_false (by omega))) | exact rises_n (by rw [i1]; exact rises_f2 (runB_f1 (by assumption))) | exact rises_n (by rw [i1]; exact rises_f2 (runB_f2 (by omega) (by rw [empty_at (by omega)]; exact decide_eq_false (by omega)))) | exact rises_n (by rw [i1]; exact rises_f2 (runB_f3 (by omega))) | exact rises_n (by rw [i1]; exact rises_f3 (runC_f (prevR_pos (by omega) hz) (by omega)))); exact PanD.mk Tryz.call166 (d_rises_p _ _) (by repeat constructor) (Rsl.of1 rfl (.cell1 Tryz.isAgg4 rfl (by repeat constructor) (by repeat constructor))) ⟨by rw [hfalse], rfl⟩ (by repeat constructor) (by repeat constructor))
    ·have hq4d := of_decide_eq_false hq4
     refine OW2.not (Wn.not rfl rfl rfl hq4) rfl ?_
     refine OW2.not (Wn.not rfl rfl rfl hq4) rfl ?_
     refine OW2.not (Wn.not rfl rfl rfl hq4) rfl ?_
     refine OW2.yl (Wn.plain rfl) rfl (Yl.pick_false rfl hq4 rfl) ?_
     refine OW2.yl (Wn.plain rfl) rfl (Yl.move rfl) ?_
     refine OW2.not (Wn.not rfl rfl rfl rfl) rfl ?_
     refine OW2.not (Wn.not rfl rfl rfl rfl) rfl ?_
     refine OW2.not (Wn.not rfl rfl rfl rfl) rfl ?_
     refine OW2.yl (Wn.plain rfl) rfl (Yl.pick_false rfl rfl rfl) ?_
     refine OW2.yl (Wn.plain rfl) rfl (Yl.move rfl) ?_
     refine OW2.not (Wn.not rfl rfl rfl rfl) rfl ?_
     refine OW2.not (Wn.not rfl rfl rfl rfl) rfl ?_
     refine OW2.not (Wn.not rfl rfl rfl rfl) rfl ?_
     refine OW2.yl (Wn.plain rfl) rfl (Yl.pick_false rfl rfl rfl) ?_
     refine OW2.yl (Wn.plain rfl) rfl (Yl.move rfl) ?_
     refine OW2.not (Wn.not rfl rfl rfl rfl) rfl ?_
     refine OW2.not (Wn.not rfl rfl rfl rfl) rfl ?_
     refine OW2.not (Wn.not rfl rfl rfl rfl) rfl ?_
     refine OW2.yl (Wn.plain rfl) rfl (Yl.pick_false rfl rfl rfl) ?_
     refine OW2.yl (Wn.plain rfl) rfl (Yl.move rfl) ?_
     refine OW2.not (Wn.not rfl rfl rfl rfl) rfl ?_
     refine OW2.not (Wn.not rfl rfl rfl rfl) rfl ?_
     refine OW2.not (Wn.not rfl rfl rfl rfl) rfl ?_
     refine OW2.yl (Wn.plain rfl) rfl (Yl.pick_false rfl rfl rfl) ?_
     refine OW2.callP (Wn.plain rfl) rfl Tryz.call167 rfl (c_sure_f _ rfl) (by repeat constructor) (fun _ _ h => by cases h.1) (by rintro ch L' ⟨hch, rfl⟩; cases hch; have hfalse : risesM l = false := (by first | exact rises_len (by omega) | exact rises_n (by rw [i1]; exact rises_f1 (decide_eq_false (by omega))) | exact rises_n (by rw [i1]; exact rises_f2 (runB_f1 (by assumption))) | exact rises_n (by rw [i1]; exact rises_f2 (runB_f2 (by omega) (by rw [empty_at (by omega)]; exact decide_eq_false (by omega)))) | exact rises_n (by rw [i1]; exact rises_f2 (runB_f3 (by omega))) | exact rises_n (by rw [i1]; exact rises_f3 (runC_f (prevR_pos (by omega) hz) (by omega)))); exact PanD.mk Tryz.call166 (d_rises_p _ _) (by repeat constructor) (Rsl.of1 rfl (.cell1 Tryz.isAgg4 rfl (by repeat constructor) (by repeat constructor))) ⟨by rw [hfalse], rfl⟩ (by repeat constructor) (by repeat constructor))
   ·have hq3d := of_decide_eq_false hq3
    rw [drop_end (by omega)] at i1
    rw [take_end (by omega)] at i2
    refine W2.exit ?_
    refine W2.seq ?_
    refine W2.region ?_
    refine OW2.yl (Wn.plain rfl) rfl (Yl.move rfl) ?_
    refine OW2.yl (Wn.plain rfl) rfl (Yl.leq rfl rfl) ?_
    refine OW2.store (Wn.plain rfl) Tryz.sizeOf4 rfl rfl (by constructor) (by repeat constructor) rfl (by repeat constructor) (by repeat constructor) ?_
    refine OW2.nil ?_
    refine W2.ret ?_
    exact FinD.mk Tryz.call166 (d_rises_r _ _) (by repeat constructor) (Rsl.of1 rfl (.cell1 Tryz.isAgg4 rfl (by repeat constructor) (by repeat constructor))) ⟨by rw [rises_end (by omega) i1 i2], rfl⟩ (by repeat constructor) (by repeat constructor)
  ·have hq2d := of_decide_eq_false hq2
   refine OW2.callP (Wn.plain rfl) rfl Tryz.call167 rfl (c_sure_f _ hq2) (by repeat constructor) (fun _ _ h => by cases h.1) (by rintro ch L' ⟨hch, rfl⟩; cases hch; have hfalse : risesM l = false := (by first | exact rises_len (by omega) | exact rises_n (by rw [i1]; exact rises_f1 (decide_eq_false (by omega))) | exact rises_n (by rw [i1]; exact rises_f2 (runB_f1 (by assumption))) | exact rises_n (by rw [i1]; exact rises_f2 (runB_f2 (by omega) (by rw [empty_at (by omega)]; exact decide_eq_false (by omega)))) | exact rises_n (by rw [i1]; exact rises_f2 (runB_f3 (by omega))) | exact rises_n (by rw [i1]; exact rises_f3 (runC_f (prevR_pos (by omega) hz) (by omega)))); exact PanD.mk Tryz.call166 (d_rises_p _ _) (by repeat constructor) (Rsl.of1 rfl (.cell1 Tryz.isAgg4 rfl (by repeat constructor) (by repeat constructor))) ⟨by rw [hfalse], rfl⟩ (by repeat constructor) (by repeat constructor))
 ·have hq1d := of_decide_eq_false hq1
  refine OW2.not (Wn.not rfl rfl rfl hq1) rfl ?_
  refine OW2.not (Wn.not rfl rfl rfl hq1) rfl ?_
  refine OW2.not (Wn.not rfl rfl rfl hq1) rfl ?_
  refine OW2.yl (Wn.plain rfl) rfl (Yl.pick_false rfl hq1 rfl) ?_
  refine OW2.callP (Wn.plain rfl) rfl Tryz.call167 rfl (c_sure_f _ rfl) (by repeat constructor) (fun _ _ h => by cases h.1) (by rintro ch L' ⟨hch, rfl⟩; cases hch; have hfalse : risesM l = false := (by first | exact rises_len (by omega) | exact rises_n (by rw [i1]; exact rises_f1 (decide_eq_false (by omega))) | exact rises_n (by rw [i1]; exact rises_f2 (runB_f1 (by assumption))) | exact rises_n (by rw [i1]; exact rises_f2 (runB_f2 (by omega) (by rw [empty_at (by omega)]; exact decide_eq_false (by omega)))) | exact rises_n (by rw [i1]; exact rises_f2 (runB_f3 (by omega))) | exact rises_n (by rw [i1]; exact rises_f3 (runC_f (prevR_pos (by omega) hz) (by omega)))); exact PanD.mk Tryz.call166 (d_rises_p _ _) (by repeat constructor) (Rsl.of1 rfl (.cell1 Tryz.isAgg4 rfl (by repeat constructor) (by repeat constructor))) ⟨by rw [hfalse], rfl⟩ (by repeat constructor) (by repeat constructor))
end Go.Yb
