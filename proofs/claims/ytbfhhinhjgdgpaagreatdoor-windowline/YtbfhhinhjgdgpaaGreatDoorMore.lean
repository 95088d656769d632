/-
  A part of the proof of windowLine_holds: see the text that holds it. No conditions of its own.
-/
import Derived.Test.YtbfhhinhjgdgpaaGreatDoorLoop
import Derived.Laws.OwnMore
import Derived.Laws.Cover3
import Derived.Lib.SliceRun
namespace Go.Yb
open Go Go.RowKit
section
variable {P : Program} {r : Option Nat} {n : Nat} {K : Post} {Q : Exit → Post} {e : Env} {ds : List Deferred} {L L' : List Res}
variable {d : Option Tmp} {ty : TypeId} {pos : String} {af : Array Edge} {g : Option (Nat × Bool)}

theorem flat_len {α : Type} (f : α → List Value) {sz : Nat} (hf : ∀ y, (f y).length = sz) : ∀ zs : List α, (zs.map f).flatten.length = zs.length * sz
  | [] => by simp
  | z :: zs => by
    have := flat_len f hf zs
    simp only [List.map_cons, List.flatten_cons, List.length_append, hf, List.length_cons, Nat.succ_mul, this]; omega

/-- a row of m zeros, with room for c -/
theorem Ex.makeN {T E sz bytes : Nat} {x y : Operand} {kx ky : IntKind} {i j : Int} (m c : Nat) (hT : RowT P T E sz bytes) (hx : Env.ev e x = some (.int kx i)) (hy : Env.ev e y = some (.int ky j))
  (hi : i = (m : Int)) (hj : j = (c : Int)) (hmc : m ≤ c) (hb : bytes * c ≤ 281474976710656) (h63 : c ≤ 9223372036854775807) :
  Ex P r e L ⟨d, .makeSlice T x y, ty, pos, af, g⟩ (fun v' L1 => ∃ b xs, v' = .slice (some ⟨b, 0, none⟩) m c ∧ L1 = .arr (.slice (some ⟨b, 0, none⟩) m c) E sz m xs :: L) := fun n ds κ ac w next Q ha hs hn => by
 obtain ⟨inf, z, t1, t2, t3, t4, t5, t6, t7⟩ := hT.out
 subst hi hj
 have hb' : (inf.bytes : Int) * (c : Int) ≤ 281474976710656 := by
  rw [t5]; have h : ((bytes * c : Nat) : Int) ≤ 281474976710656 := by omega
  rwa [Int.natCast_mul] at h
 have hr := run_make (P := P) w T E inf z t1 t2 t3 kx ky (m : Int) (c : Int) (by omega) (by omega) hb' (by omega)
 simp only [Int.toNat_natCast] at hr
 refine ⟨fun _ _ => trivial, ?_⟩
 have hex : (execOp ac.eval ⟨d, .makeSlice T x y, ty, pos, af, g⟩).run P w = .ok (.value (.slice (some ⟨w.heap.size, 0, none⟩) m c)) (w.alloc (.cells (madeCells z.cells (c * inf.size)) E)) := by
  simp [execOp, ha.eval hx, ha.eval hy, hr, Result.andThen]
 rw [Oper.semAt_eq _ _ _ (by simp), hex]
 refine hn _ _ _ ⟨_, (madeCells z.cells (c * inf.size)).toList.take (m * sz), rfl, rfl⟩ ?_
 refine St.append (v := .slice none 0 0) (xs := []) (n := 0) (Ent.new_arr E sz κ w hs) ?_ (by simpa [Value.ownBlock] using World.grownBy_alloc w _ none) (.inr fun k hk => ?_)
 ·have hsz : (madeCells z.cells (c * inf.size)).size = c * sz := by rw [size_madeCells, t4]
  refine ⟨?_, .inr ⟨w.heap.size, c, _, rfl, Nat.zero_le _, heap_alloc_new w _, hmc, h63, hsz, rfl⟩⟩
  rw [List.length_take, Array.length_toList, hsz]
  exact Nat.min_eq_left (Nat.mul_le_mul_right _ hmc)
 ·simp only [Value.ownBlock, Option.some.injEq] at hk; omega

/-- a row of our own is overlaid by another one as long -/
theorem Ex.copyR {α : Type} {f : α → List Value} {xs : List Value} {T T' E sz bytes : Nat} {x y : Operand} {a a' : Option Addr} {c k c' : Nat} (zs : List α) (hT : RowT P T E sz bytes) (hx : Env.ev e x = some (.slice a zs.length c)) (hy : Env.ev e y = some (.slice a' k c'))
  (hp : Pick (.arr (.slice a zs.length c) E sz zs.length xs) L L') (hk : k = zs.length) (hsrc : Src L a' k (zs.map f).flatten) (hf : ∀ y, (f y).length = sz) (h1 : ∀ y, OneI (f y)) :
  Ex P r e L ⟨d, .call { callee := .builtin .copy, args := #[x, y], argTypes := #[T, T'] }, ty, pos, af, g⟩ (fun v' L1 => v' = .int .i64 (zs.length : Int) ∧ L1 = rowR E sz f zs a c :: L') := fun n ds κ ac w next Q ha hs hn => by
 obtain ⟨inf, z, t1, t2, t3, t4, t5, t6, t7⟩ := hT.out
 subst hk
 have hown := Pick.arr_own hs hp
 have hflen : (zs.map f).flatten.length = zs.length * sz := flat_len f hf zs
 have hone : ∀ v ∈ (zs.map f).flatten, v.oneCell' = true := fun v hv => by
  obtain ⟨l, hl', hv⟩ := List.mem_flatten.1 hv
  obtain ⟨y, _, rfl⟩ := List.mem_map.1 hl'
  exact (h1 y).all v hv
 refine ⟨fun _ _ => trivial, ?_⟩
 have hmin : Nat.min zs.length zs.length = zs.length := Nat.min_self _
 rcases hown.2 with ⟨hv, h0⟩ | ⟨gb, cap, cur, hv, hbg, hg, hnc, hcm, hcs, htake⟩
 ·have hzs : zs = [] := List.eq_nil_of_length_eq_zero h0
  subst hzs
  have hxs : xs = [] := List.eq_nil_of_length_eq_zero (by simpa using hown.1)
  subst hxs
  cases hv
  have hr : (Builtin.copy_ #[T, T'] ty #[.slice none 0 0, .slice a' 0 c']).run P w = .ok (goInt 0) w := by
   cases a' with
   | none => simp [Builtin.copy_, run_underlying t1, Builtin.lenOf, Builtin.firstCells, sizeOf, typeInfo, t2]
   | some p => simp [Builtin.copy_, run_underlying t1, Builtin.lenOf, Builtin.firstCells, sizeOf, typeInfo, t2, loadCells, loadCellsFrom]
  have hex : (execOp ac.eval ⟨d, .call { callee := .builtin .copy, args := #[x, y], argTypes := #[T, T'] }, ty, pos, af, g⟩).run P w = .ok (.value (goInt 0)) w := by
   have hx' := ha.eval hx
   have hy' := ha.eval hy
   simp only [List.length_nil] at hx' hy'
   simp [execOp, resolve, invoke, builtin, hx', hy', hr, Result.andThen]
  rw [Oper.semAt_eq _ _ _ (by simp), hex]
  exact hn _ _ _ ⟨rfl, rfl⟩ (hp.ent κ w hs)
 ·cases hv
  have hsz : zs.length * sz ≤ cur.size := by rw [hcs]; exact Nat.mul_le_mul_right _ hnc
  rcases hsrc κ w hs with ⟨rfl, h0⟩ | ⟨p, rfl, hnews⟩
  ·have hzs : zs = [] := List.eq_nil_of_length_eq_zero h0
   subst hzs
   have hxs : xs = [] := List.eq_nil_of_length_eq_zero (by simpa using hown.1)
   subst hxs
   have hr : (Builtin.copy_ #[T, T'] ty #[.slice (some ⟨gb, 0, none⟩) 0 c, .slice none 0 c']).run P w = .ok (goInt 0) w := by
    simp [Builtin.copy_, run_underlying t1, Builtin.lenOf, Builtin.firstCells, sizeOf, typeInfo, t2, storeCells]
   have hex : (execOp ac.eval ⟨d, .call { callee := .builtin .copy, args := #[x, y], argTypes := #[T, T'] }, ty, pos, af, g⟩).run P w = .ok (.value (goInt 0)) w := by
    have hx' := ha.eval hx
    have hy' := ha.eval hy
    simp only [List.length_nil] at hx' hy'
    simp [execOp, resolve, invoke, builtin, hx', hy', hr, Result.andThen]
   rw [Oper.semAt_eq _ _ _ (by simp), hex]
   exact hn _ _ _ ⟨rfl, rfl⟩ (hp.ent κ w hs)
  ·have hld := run_loadCells_list (P := P) (w := w) p _ hnews
   have hst := run_storeCells_at P gb 0 E (zs.map f).flatten 0 cur w hg (by rw [hflen]; omega) hone
   have hr : (Builtin.copy_ #[T, T'] ty #[.slice (some ⟨gb, 0, none⟩) zs.length c, .slice (some p) zs.length c']).run P w = .ok (goInt zs.length) (w.setRow gb (cur.toList.take (0 + 0) ++ (zs.map f).flatten ++ cur.toList.drop (0 + 0 + (zs.map f).flatten.length)).toArray) := by
    rw [hflen] at hld
    simp only [Builtin.copy_, Builtin.lenOf, Builtin.firstCells, sizeOf, typeInfo, t4, List.getElem?_toArray, List.getElem?_cons_zero, List.getElem?_cons_succ, Sem.run_bind, Sem.run_pure, Result.andThen_ok, run_underlying t1, hmin, hld]
    simp [hst, t2, t4, hld, hmin]
   have hex : (execOp ac.eval ⟨d, .call { callee := .builtin .copy, args := #[x, y], argTypes := #[T, T'] }, ty, pos, af, g⟩).run P w = .ok (.value (goInt zs.length)) (w.setRow gb (cur.toList.take (0 + 0) ++ (zs.map f).flatten ++ cur.toList.drop (0 + 0 + (zs.map f).flatten.length)).toArray) := by
    simp [execOp, resolve, invoke, builtin, ha.eval hx, ha.eval hy, hr, Result.andThen]
   rw [Oper.semAt_eq _ _ _ (by simp), hex]
   refine hn _ _ _ ⟨rfl, rfl⟩ ?_
   refine St.write (r := .arr (.slice (some ⟨gb, 0, none⟩) zs.length c) E sz zs.length xs) (b := gb) (hp.ent κ w hs) rfl rfl ⟨rfl, rfl, rfl⟩ (by simp) (fun k hk => setRow_other w gb k _ hk) (fun I _ => ?_)
   refine ⟨hflen, .inr ⟨gb, c, _, rfl, Nat.zero_le _, setRow_heap w gb _ _ _ _ hg, hnc, hcm, ?_, ?_⟩⟩
   ·have e1 : cur.toList.length = c * sz := by rw [Array.length_toList, hcs]
    simp [hflen]; omega
   ·simp [hflen]

/-- is a slice nil? -/
theorem Yl.eqnilS {T E : TypeId} {x : Operand} {yt : TypeId} {a : Option Addr} {m c : Nat} (hT : P.underlying T = some (.slice E)) (hx : Env.ev e x = some (.slice a m c)) :
    Yl P e L ⟨d, .binOp .eql T x (.const (.slice none 0 0)) yt, ty, pos, af, g⟩ (.bool a.isNone) :=
  Yl.of rfl fun _ _ _ _ w ha _ => by
    have h := Go.Lib.run_eql_slice_nil (P := P) w T E a m c 0 0 hT
    have h0 : ∀ b : Act, b.eval (.const (.slice none 0 0)) = .slice none 0 0 := fun _ => rfl
    simp only [execOp, ha.eval hx, h0, eqGuard_at_slice, Sem.run_bind, Sem.run_pure, Result.andThen_ok, h]
theorem Sl.nil_len {α : Type} {f : α → List Value} {ys : List α} {sz c : Nat} (hp : Pick (rowI sz f ys none c) L L') : ∀ κ w, St κ L w → ys.length = 0 := fun κ w hs => by
  cases hl : ys.length with
  | zero => rfl
  | succ n =>
    obtain ⟨p, hp'⟩ := Sl.isSome hp (by omega) κ w hs
    cases hp'
/-- a row of none, written down -/
theorem Ent.lit0 {α : Type} {b E sz : Nat} (f : α → List Value) : Ent (.cell b [] E :: L) (rowR E sz f [] (some ⟨b, 0, none⟩) 0 :: L) := by
 rintro κ w ⟨hs, I, h1, h2, h3, h4⟩
 refine ⟨hs, I, h1, fun r hr => ?_, ?_, ?_⟩
 ·rcases List.mem_cons.1 hr with rfl | hr
  ·have hc : w.heap[b]? = some (.cells #[] E (0, 0)) := h2 (.cell b [] E) List.mem_cons_self
   exact ⟨by simp, .inr ⟨b, 0, #[], rfl, Nat.zero_le _, hc, Nat.le_refl _, Nat.zero_le _, by simp, by simp⟩⟩
  ·exact h2 r (List.mem_cons_of_mem _ hr)
 ·simpa [fps, Res.fp, Value.ownBlock] using h3
 ·simpa [fps, Res.fp, Value.ownBlock] using h4
theorem OW.appS {α : Type} {f : α → List Value} {ys zs : List α} {ops : Array Oper} {ll : List Oper} {T E sz bytes : Nat} {x y : Operand} {a a' : Option Addr} {c c' : Nat} (hw : Wn ops e ⟨d, .call { callee := .builtin .append, args := #[x, y], argTypes := #[T, T] }, ty, pos, af, g⟩ true) (hd : dstOk n d = true)
  (hT : RowT P T E sz bytes) (hx : Env.ev e x = some (.slice a ys.length c)) (hy : Env.ev e y = some (.slice a' zs.length c'))
  (hp : Pick (rowR E sz f ys a c) L L') (hq : ∃ L1, Pick (rowI sz f zs a' c') L L1) (hf : ∀ y, (f y).length = sz) (h1 : ∀ y, OneI (f y)) (h63 : ys.length + zs.length ≤ 9223372036854775807) (hb : (ys.length + zs.length) * bytes ≤ 140737488355328)
  (kk : ∀ a'' c'', OW P r n ops ll K Q (Env.put e d (.slice a'' (ys ++ zs).length c'')) ds (rowR E sz f (ys ++ zs) a'' c'' :: L')) :
  OW P r n ops (⟨d, .call { callee := .builtin .append, args := #[x, y], argTypes := #[T, T] }, ty, pos, af, g⟩ :: ll) K Q e ds L := by
 obtain ⟨L1, hq⟩ := hq
 obtain ⟨inf, z, t1, t2, t3, t4, t5, t6, t7⟩ := hT.out
 refine OW.append hw hd hT hx hy hp (Src.sl t7 hq) (flat_len f hf zs) (fun u hu => ?_) h63 hb fun a'' c'' => ?_
 ·obtain ⟨l, hl, hu⟩ := List.mem_flatten.1 hu
  obtain ⟨y, _, rfl⟩ := List.mem_map.1 hl
  exact (h1 y).all u hu
 ·have := kk a'' c''
  simp only [rowR, List.length_append, List.map_append, List.flatten_append] at this
  exact this
/-- a field of a struct's value, of one cell -/
theorem Yl.fieldV {T : TypeId} {x : Operand} {fs : Array Field} {fd : Field} {cs : List Value} {f o : Nat} {v : Value} (hu : P.underlying T = some (.struct fs)) (hf : fs[f]? = some fd) (hE : ∀ w, (isAgg fd.type).run P w = .ok false w)
    (hx : Env.ev e x = some (.agg cs.toArray)) (ho : fd.offset = o) (hv : AtI cs o v) : Yl P e L ⟨d, .field T x f, ty, pos, af, g⟩ v :=
  Yl.of rfl fun _ _ _ _ w ha _ => by
    have h3 := hv.get
    subst ho
    simp [execOp, ha.eval hx, Instr.field, run_underlying hu, hf, asAgg, part, hE, h3]
theorem Yl.iface {T : TypeId} {x : Operand} {v : Value} (hc : P.concrete T = true) (hx : Env.ev e x = some v) : Yl P e L ⟨d, .makeInterface T x, ty, pos, af, g⟩ (.iface T v) :=
  Yl.of rfl fun _ _ _ _ w ha _ => by
    have h := run_makeInterface (P := P) (w := w) T v hc
    simp [execOp, ha.eval hx, h]
theorem OW.makeN {ops : Array Oper} {l : List Oper} {T E sz bytes : Nat} {x y : Operand} {kx ky : IntKind} {i j : Int} (m c : Nat) (hw : Wn ops e ⟨d, .makeSlice T x y, ty, pos, af, g⟩ true) (hd : dstOk n d = true)
    (hT : RowT P T E sz bytes) (hx : Env.ev e x = some (.int kx i)) (hy : Env.ev e y = some (.int ky j))
    (hi : i = (m : Int)) (hj : j = (c : Int)) (hmc : m ≤ c) (hb : bytes * c ≤ 281474976710656) (h63 : c ≤ 9223372036854775807)
    (kk : ∀ b xs, OW P r n ops l K Q (Env.put e d (.slice (some ⟨b, 0, none⟩) m c)) ds (.arr (.slice (some ⟨b, 0, none⟩) m c) E sz m xs :: L)) :
    OW P r n ops (⟨d, .makeSlice T x y, ty, pos, af, g⟩ :: l) K Q e ds L :=
  OW.ex hw hd (Ex.makeN m c hT hx hy hi hj hmc hb h63) fun v' L1 ⟨b, xs, h1, h2⟩ => by subst h1 h2; exact kk b xs
theorem OW.copyR {α : Type} {ops : Array Oper} {ll : List Oper} {f : α → List Value} {xs : List Value} {T T' E sz bytes : Nat} {x y : Operand} {a a' : Option Addr} {c k c' : Nat} (zs : List α) (hw : Wn ops e ⟨d, .call { callee := .builtin .copy, args := #[x, y], argTypes := #[T, T'] }, ty, pos, af, g⟩ true) (hd : dstOk n d = true)
    (hT : RowT P T E sz bytes) (hx : Env.ev e x = some (.slice a zs.length c)) (hy : Env.ev e y = some (.slice a' k c'))
    (hp : Pick (.arr (.slice a zs.length c) E sz zs.length xs) L L') (hk : k = zs.length) (hsrc : Src L a' k (zs.map f).flatten) (hf : ∀ y, (f y).length = sz) (h1 : ∀ y, OneI (f y))
    (kk : OW P r n ops ll K Q (Env.put e d (.int .i64 (zs.length : Int))) ds (rowR E sz f zs a c :: L')) :
    OW P r n ops (⟨d, .call { callee := .builtin .copy, args := #[x, y], argTypes := #[T, T'] }, ty, pos, af, g⟩ :: ll) K Q e ds L :=
  OW.ex hw hd (Ex.copyR zs hT hx hy hp hk hsrc hf h1) fun v' L1 ⟨h1, h2⟩ => by subst h1 h2; exact kk
/-- is a function nil? -/
theorem Yl.eqnilF {T : TypeId} {ps rs : Array TypeId} {vr : Bool} {x : Operand} {yt : TypeId} {f : Fn} {a c : Array Value} (hT : P.underlying T = some (.func ps rs vr)) (hx : Env.ev e x = some (.func f a c)) :
    Yl P e L ⟨d, .binOp .eql T x (.const .nilFunc) yt, ty, pos, af, g⟩ (.bool false) :=
  Yl.of rfl fun _ _ _ _ w ha _ => by
    have h0 : ∀ b : Act, b.eval (.const .nilFunc) = .nilFunc := fun _ => rfl
    simp only [execOp, ha.eval hx, h0, eqGuard_at_func, Sem.run_bind, Sem.run_pure, Result.andThen_ok]
    have h1 : ∀ d, (Op.equalIn (d + 1) T (.func f a c) .nilFunc).run P w = .ok false w := fun d => by simp [Op.equalIn, run_underlying hT]
    have h : (Op.equal T (.func f a c) .nilFunc).run P w = .ok false w := h1 9999
    simp [binOp, h]
theorem Yl.eqnilN {T : TypeId} {ps rs : Array TypeId} {vr : Bool} {x : Operand} {yt : TypeId} (hT : P.underlying T = some (.func ps rs vr)) (hx : Env.ev e x = some .nilFunc) :
    Yl P e L ⟨d, .binOp .eql T x (.const .nilFunc) yt, ty, pos, af, g⟩ (.bool true) :=
  Yl.of rfl fun _ _ _ _ w ha _ => by
    have h0 : ∀ b : Act, b.eval (.const .nilFunc) = .nilFunc := fun _ => rfl
    simp only [execOp, ha.eval hx, h0, eqGuard_at_nilFunc, Sem.run_bind, Sem.run_pure, Result.andThen_ok]
    have h1 : ∀ d, (Op.equalIn (d + 1) T (.nilFunc) .nilFunc).run P w = .ok true w := fun d => by simp [Op.equalIn, run_underlying hT]
    have h : (Op.equal T (.nilFunc) .nilFunc).run P w = .ok true w := h1 9999
    simp [binOp, h]
end
end Go.Yb
