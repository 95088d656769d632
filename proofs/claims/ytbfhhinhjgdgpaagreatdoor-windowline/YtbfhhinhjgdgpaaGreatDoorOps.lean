/-
  A part of the proof of windowLine_holds: see the text that holds it. No conditions of its own.
-/
import Derived.Test.YtbfhhinhjgdgpaaGreatDoorRules
import Derived.IntWalk
namespace Go.Yb
open Go Go.RowKit

/-! ### Lists, by small steps -/
inductive AtI : List Value → Nat → Value → Prop
  | z {v : Value} {l : List Value} : AtI (v :: l) 0 v
  | s {v x : Value} {l : List Value} {n : Nat} : AtI l n v → AtI (x :: l) (n + 1) v
theorem AtI.get {l : List Value} {n : Nat} {v : Value} (h : AtI l n v) : l[n]? = some v := by
 induction h with
 | z => rfl
 | s _ ih => simpa using ih

inductive TkI : List Value → Nat → List Value → Prop
  | z {l : List Value} : TkI l 0 []
  | s {x : Value} {l rs : List Value} {n : Nat} : TkI l n rs → TkI (x :: l) (n + 1) (x :: rs)
theorem TkI.spec {l rs : List Value} {n : Nat} (h : TkI l n rs) : rs.length = n ∧ ∀ j, j < n → l[j]? = rs[j]? := by
 induction h with
 | z => exact ⟨rfl, fun j hj => absurd hj (Nat.not_lt_zero _)⟩
 | s _ ih =>
  refine ⟨by simp [ih.1], fun j hj => ?_⟩
  cases j with
  | zero => rfl
  | succ j => simpa using ih.2 j (by omega)

inductive SubI : List Value → Nat → Nat → List Value → Prop
  | z {l rs : List Value} {k : Nat} : TkI l k rs → SubI l 0 k rs
  | s {x : Value} {l rs : List Value} {o k : Nat} : SubI l o k rs → SubI (x :: l) (o + 1) k rs
theorem SubI.spec {l rs : List Value} {o k : Nat} (h : SubI l o k rs) : rs.length = k ∧ ∀ j, j < k → l[o + j]? = rs[j]? := by
 induction h with
 | z h => exact ⟨h.spec.1, fun j hj => by rw [Nat.zero_add]; exact h.spec.2 j hj⟩
 | s _ ih => exact ⟨ih.1, fun j hj => by rw [Nat.add_right_comm]; simpa using ih.2 j hj⟩

inductive PutI : List Value → Nat → List Value → List Value → Prop
  | n {l : List Value} : PutI l 0 [] l
  | c {x u : Value} {l us l' : List Value} : PutI l 0 us l' → PutI (x :: l) 0 (u :: us) (u :: l')
  | s {x : Value} {l us l' : List Value} {o : Nat} : PutI l o us l' → PutI (x :: l) (o + 1) us (x :: l')
theorem PutI.spec {l us l' : List Value} {o : Nat} (h : PutI l o us l') : o + us.length ≤ l.length ∧ l' = l.take o ++ us ++ l.drop (o + us.length) := by
 induction h with
 | n => simp
 | c _ ih => exact ⟨by have := ih.1; simp at this ⊢; omega, by have := ih.2; simp at this ⊢; rw [this]⟩
 | s _ ih => exact ⟨by have := ih.1; simp at this ⊢; omega, by have := ih.2; simp [Nat.add_right_comm _ 1] at this ⊢; exact this⟩

/-- a value's cells -/
inductive CellsI : Value → List Value → Prop
  | agg {us : List Value} : CellsI (.agg us.toArray) us
  | int {k : IntKind} {n : Int} : CellsI (.int k n) [.int k n]
  | bool {b : Bool} : CellsI (.bool b) [.bool b]
  | pointer {a : Option Addr} : CellsI (.pointer a) [.pointer a]
  | slice {a : Option Addr} {n c : Nat} : CellsI (.slice a n c) [.slice a n c]
  | func {f : Fn} {a c : Array Value} : CellsI (.func f a c) [.func f a c]
  | nilFunc : CellsI .nilFunc [.nilFunc]
  | string {s : ByteArray} : CellsI (.string s) [.string s]
theorem CellsI.eq {v : Value} {us : List Value} (h : CellsI v us) : v.cells = us.toArray := by cases h <;> rfl

inductive OneI : List Value → Prop
  | nil : OneI []
  | int {k : IntKind} {n : Int} {us : List Value} : OneI us → OneI (.int k n :: us)
  | bool {b : Bool} {us : List Value} : OneI us → OneI (.bool b :: us)
  | pointer {a : Option Addr} {us : List Value} : OneI us → OneI (.pointer a :: us)
  | slice {a : Option Addr} {n c : Nat} {us : List Value} : OneI us → OneI (.slice a n c :: us)
  | func {f : Fn} {a c : Array Value} {us : List Value} : OneI us → OneI (.func f a c :: us)
  | nilFunc {us : List Value} : OneI us → OneI (.nilFunc :: us)
  | string {s : ByteArray} {us : List Value} : OneI us → OneI (.string s :: us)
theorem OneI.all {us : List Value} (h : OneI us) : ∀ v ∈ us, v.oneCell' = true := by
 induction h with
 | nil => simp
 | _ _ ih => intro v hv; rcases List.mem_cons.1 hv with rfl | hv <;> first | rfl | exact ih v hv

/-! ### What the tables say of types -/
def ScalarT (P : Program) (T : TypeId) : Prop := ∀ w, (isAgg T).run P w = .ok false w
def AggT (P : Program) (T : TypeId) (k : Nat) : Prop := (∀ w, (isAgg T).run P w = .ok true w) ∧ ∀ w, (sizeOf T).run P w = .ok k w
def SizeT (P : Program) (T : TypeId) (k : Nat) : Prop := ∀ w, (sizeOf T).run P w = .ok k w
def FieldT (P : Program) (T : TypeId) (f off : Nat) : Prop := ∀ b o w, (Instr.fieldAt T (.pointer (some ⟨b, o, none⟩)) f).run P w = .ok (.pointer (some ((⟨b, o, none⟩ : Addr).add off))) w
def ZeroT (P : Program) (T : TypeId) (z : Value) : Prop := ∀ w, (zeroValue T).run P w = .ok z w
def SliceT (P : Program) (T E sz : Nat) : Prop := P.underlying T = some (.slice E) ∧ ∀ w, (sizeOf E).run P w = .ok sz w
def ArrayT (P : Program) (T len E sz : Nat) : Prop := P.underlying T = some (.array len E) ∧ ∀ w, (sizeOf E).run P w = .ok sz w

section
variable {P : Program} {r : Option Nat} {n : Nat} {e : Env} {L L' : List Res}
variable {d : Option Tmp} {ty : TypeId} {pos : String} {af : Array Edge} {g : Option (Nat × Bool)}

theorem notDefer_simple {o : Oper} (h : (match o.op with | .defer _ => false | _ => true) = true) : ∀ c, o.op ≠ .defer c := by
 intro c hc; rw [hc] at h; cases h

theorem Yl.of {o : Oper} {v : Value} (hd : (match o.op with | .defer _ => false | _ => true) = true) (h : ∀ n ds κ a w, Has n ds e a → St κ L w → (execOp a.eval o).run P w = .ok (.value v) w) : Yl P e L o v :=
  ⟨notDefer_simple hd, h⟩

theorem Yl.move {x : Operand} {v : Value} (hx : Env.ev e x = some v) : Yl P e L ⟨d, .move x, ty, pos, af, g⟩ v :=
  Yl.of rfl fun _ _ _ _ _ ha _ => by simp [execOp, ha.eval hx]
theorem Yl.assign {x : Operand} {v : Value} (hx : Env.ev e x = some v) : Yl P e L ⟨d, .assign x, ty, pos, af, g⟩ v :=
  Yl.of rfl fun _ _ _ _ _ ha _ => by simp [execOp, ha.eval hx]
theorem Yl.pick_true {c x y : Operand} {b : Bool} {v : Value} (hc : Env.ev e c = some (.bool b)) (hb : b = true) (hx : Env.ev e x = some v) : Yl P e L ⟨d, .pick c x y, ty, pos, af, g⟩ v :=
  Yl.of rfl fun _ _ _ _ _ ha _ => by simp [execOp, ha.eval hx, ha.eval hc, hb, asBool]
theorem Yl.pick_false {c x y : Operand} {b : Bool} {u : Value} (hc : Env.ev e c = some (.bool b)) (hb : b = false) (hy : Env.ev e y = some u) : Yl P e L ⟨d, .pick c x y, ty, pos, af, g⟩ u :=
  Yl.of rfl fun _ _ _ _ _ ha _ => by simp [execOp, ha.eval hy, ha.eval hc, hb, asBool]

/-! #### memory -/

theorem St.cell_at {κ : Strm} {w : World} {b : Nat} {vs : List Value} {T : TypeId} (h : St κ L w) (hp : Pick (.cell b vs T) L L') : w.heap[b]? = some (.cells vs.toArray T (0, 0)) := by
 obtain ⟨_, I, _, h2, _, _⟩ := h
 exact h2 _ (hp.perm.mem_iff.2 List.mem_cons_self)

theorem Yl.load1 {T : TypeId} {x : Operand} {b off : Nat} {vs : List Value} {TT : TypeId} {v : Value} (hT : ScalarT P T) (hx : Env.ev e x = some (.pointer (some ⟨b, off, none⟩)))
    (hp : Pick (.cell b vs TT) L L') (hv : AtI vs off v) : Yl P e L ⟨d, .load T x, ty, pos, af, g⟩ v :=
  Yl.of rfl fun _ _ _ _ w ha hs => by
    have hc : w.cell? ⟨b, off, none⟩ = some v := by rw [cell_of_row w b off _ _ _ (hs.cell_at hp)]; simpa using hv.get
    simp [execOp, ha.eval hx, Instr.loadAt, Instr.sureAddr, loadVar, hT w, hc]

theorem Yl.load {T : TypeId} {x : Operand} {b off k : Nat} {vs us : List Value} {TT : TypeId} (hT : AggT P T k) (hx : Env.ev e x = some (.pointer (some ⟨b, off, none⟩)))
    (hp : Pick (.cell b vs TT) L L') (hv : SubI vs off k us) : Yl P e L ⟨d, .load T x, ty, pos, af, g⟩ (.agg us.toArray) :=
  Yl.of rfl fun _ _ _ _ w ha hs => by
    obtain ⟨hl, hv⟩ := hv.spec
    have hc : ∀ j v, us[j]? = some v → w.cell? ((⟨b, off, none⟩ : Addr).add j) = some v := fun j v hj => by
      rw [Addr.add_lit, cell_of_row w b _ _ _ _ (hs.cell_at hp)]
      have hlt : j < k := by rw [← hl]; exact (List.getElem?_eq_some_iff.1 hj).1
      simpa [hj] using hv j hlt
    have hr := run_loadCells_list (P := P) (w := w) ⟨b, off, none⟩ us hc
    rw [hl] at hr
    simp [execOp, ha.eval hx, Instr.loadAt, Instr.sureAddr, loadVar, hT.1 w, hT.2 w, hr]

theorem Ex.store {T : TypeId} {x y : Operand} {b off k : Nat} {vs us vs' : List Value} {TT : TypeId} {v : Value} (hT : SizeT P T k) (hx : Env.ev e x = some (.pointer (some ⟨b, off, none⟩)))
  (hy : Env.ev e y = some v) (hc : CellsI v us) (ho : OneI us) (hk : us.length = k) (hp : Pick (.cell b vs TT) L L') (hv : PutI vs off us vs') :
  Ex P r e L ⟨d, .store T x y, ty, pos, af, g⟩ (fun _ L1 => L1 = .cell b vs' TT :: L') := fun n ds κ a w next Q ha hs hn => by
 refine ⟨fun _ _ => trivial, ?_⟩
 obtain ⟨hle, hvs⟩ := hv.spec
 have hg := hs.cell_at hp
 have hst := run_storeCells_at P b off TT us 0 vs.toArray w hg (by simpa using hle) ho.all
 simp only [Nat.add_zero] at hst
 rw [← hvs] at hst
 have hex : (execOp a.eval ⟨d, .store T x y, ty, pos, af, g⟩).run P w = .ok .skip (w.setRow b vs'.toArray) := by
  simp [execOp, ha.eval hx, ha.eval hy, Instr.storeAt, Instr.sureAddr, storeVar, hc.eq, hT w, hk, hst]
 rw [Oper.semAt_eq _ _ _ (by simp), hex]
 refine hn undef _ _ rfl ?_
 refine St.write (r := .cell b vs TT) (b := b) (hp.ent κ w hs) rfl rfl ⟨rfl, rfl, rfl⟩ (by simp) (fun k hk => setRow_other w b k _ hk) (fun I _ => setRow_heap w b _ _ _ _ hg)

theorem Ex.alloc {T : TypeId} {z : Value} {us : List Value} (hz : ZeroT P T z) (hc : CellsI z us) :
  Ex P r e L ⟨d, .alloc T, ty, pos, af, g⟩ (fun v L1 => ∃ b, v = .pointer (some ⟨b, 0, none⟩) ∧ L1 = .cell b us T :: L) := fun n ds κ a w next Q ha hs hn => by
 refine ⟨fun _ _ => trivial, ?_⟩
 have hex : (execOp a.eval ⟨d, .alloc T, ty, pos, af, g⟩).run P w = .ok (.value (.pointer (some ⟨w.heap.size, 0, none⟩))) (w.alloc (.cells us.toArray T)) := by
  simp [execOp, Instr.alloc, hz w, newVar, newRow, hc.eq]
 rw [Oper.semAt_eq _ _ _ (by simp), hex]
 exact hn _ _ _ ⟨_, rfl, rfl⟩ (Ent.obj_cell _ _ _ _ κ _ (hs.new _))

theorem Ex.box {T : TypeId} {x : Operand} {v : Value} {us : List Value} (hx : Env.ev e x = some v) (hc : CellsI v us) :
  Ex P r e L ⟨d, .box T x, ty, pos, af, g⟩ (fun v L1 => ∃ b, v = .pointer (some ⟨b, 0, none⟩) ∧ L1 = .cell b us T :: L) := fun n ds κ a w next Q ha hs hn => by
 refine ⟨fun _ _ => trivial, ?_⟩
 have hex : (execOp a.eval ⟨d, .box T x, ty, pos, af, g⟩).run P w = .ok (.value (.pointer (some ⟨w.heap.size, 0, none⟩))) (w.alloc (.cells us.toArray T)) := by
  simp [execOp, Instr.box, ha.eval hx, newVar, newRow, hc.eq]
 rw [Oper.semAt_eq _ _ _ (by simp), hex]
 exact hn _ _ _ ⟨_, rfl, rfl⟩ (Ent.obj_cell _ _ _ _ κ _ (hs.new _))

theorem Yl.field {T : TypeId} {x : Operand} {b o f off : Nat} (hT : FieldT P T f off) (hx : Env.ev e x = some (.pointer (some ⟨b, o, none⟩))) :
    Yl P e L ⟨d, .fieldAddr T x f, ty, pos, af, g⟩ (.pointer (some ⟨b, o + off, none⟩)) :=
  Yl.of rfl fun _ _ _ _ w ha _ => by simp [execOp, ha.eval hx, hT b o w, Addr.add_lit]

theorem Yl.nilCheck {x : Operand} {a : Addr} (hx : Env.ev e x = some (.pointer (some a))) : Yl P e L ⟨d, .nilCheck x, ty, pos, af, g⟩ (.pointer (some a)) :=
  Yl.of rfl fun _ _ _ _ w ha _ => by simp [execOp, ha.eval hx]

theorem Yl.extract {x : Operand} {vs : List Value} {i : Nat} {v : Value} (hx : Env.ev e x = some (.tuple vs.toArray)) (hv : AtI vs i v) : Yl P e L ⟨d, .extract x i, ty, pos, af, g⟩ v :=
  Yl.of rfl fun _ _ _ _ w ha _ => by
    have := hv.get
    simp [execOp, ha.eval hx, Instr.extract, this]

theorem Yl.makeFunc {fn : Fn} {first cap : Array Operand} {fs cs : List Value} (hf : Env.evs e first.toList = some fs) (hc : Env.evs e cap.toList = some cs) :
    Yl P e L ⟨d, .makeFunc fn first cap, ty, pos, af, g⟩ (.func fn fs.toArray cs.toArray) :=
  Yl.of rfl fun _ _ _ a w ha _ => by
    have h1 : first.map a.eval = fs.toArray := by rw [← ha.evals hf, ← Array.toList_map]
    have h2 : cap.map a.eval = cs.toArray := by rw [← ha.evals hc, ← Array.toList_map]
    simp [execOp, Instr.makeFunc, h1, h2]

/-! #### integers -/
theorem wrap_i64 {a : Int} (h1 : -9223372036854775808 ≤ a) (h2 : a ≤ 9223372036854775807) : IntKind.i64.wrap a = a := IntWalk.i64_in a ⟨h1, h2⟩

theorem Yl.add {x y : Operand} {xt yt : TypeId} {a b : Int} (hx : Env.ev e x = some (.int .i64 a)) (hy : Env.ev e y = some (.int .i64 b))
    (h : -9223372036854775808 ≤ a + b ∧ a + b ≤ 9223372036854775807) : Yl P e L ⟨d, .binOp .add xt x y yt, ty, pos, af, g⟩ (.int .i64 (a + b)) :=
  Yl.of rfl fun _ _ _ _ w ha _ => by simp [execOp, ha.eval hx, ha.eval hy, eqGuard_add, binOp_add, Op.intArith, wrap_i64 h.1 h.2]
theorem Yl.sub {x y : Operand} {xt yt : TypeId} {a b : Int} (hx : Env.ev e x = some (.int .i64 a)) (hy : Env.ev e y = some (.int .i64 b))
    (h : -9223372036854775808 ≤ a - b ∧ a - b ≤ 9223372036854775807) : Yl P e L ⟨d, .binOp .sub xt x y yt, ty, pos, af, g⟩ (.int .i64 (a - b)) :=
  Yl.of rfl fun _ _ _ _ w ha _ => by simp [execOp, ha.eval hx, ha.eval hy, eqGuard_sub, binOp_sub, Op.intArith, wrap_i64 h.1 h.2]
theorem Yl.mul {x y : Operand} {xt yt : TypeId} {a b : Int} (hx : Env.ev e x = some (.int .i64 a)) (hy : Env.ev e y = some (.int .i64 b))
    (h : -9223372036854775808 ≤ a * b ∧ a * b ≤ 9223372036854775807) : Yl P e L ⟨d, .binOp .mul xt x y yt, ty, pos, af, g⟩ (.int .i64 (a * b)) :=
  Yl.of rfl fun _ _ _ _ w ha _ => by simp [execOp, ha.eval hx, ha.eval hy, eqGuard_mul, binOp_mul, Op.intArith, wrap_i64 h.1 h.2]
theorem Yl.lss {x y : Operand} {xt yt : TypeId} {k : IntKind} {a b : Int} (hx : Env.ev e x = some (.int k a)) (hy : Env.ev e y = some (.int k b)) :
    Yl P e L ⟨d, .binOp .lss xt x y yt, ty, pos, af, g⟩ (.bool (decide (a < b))) :=
  Yl.of rfl fun _ _ _ _ w ha _ => by simp [execOp, ha.eval hx, ha.eval hy, eqGuard_lss, binOp_lss]
theorem Yl.leq {x y : Operand} {xt yt : TypeId} {k : IntKind} {a b : Int} (hx : Env.ev e x = some (.int k a)) (hy : Env.ev e y = some (.int k b)) :
    Yl P e L ⟨d, .binOp .leq xt x y yt, ty, pos, af, g⟩ (.bool (decide (a ≤ b))) :=
  Yl.of rfl fun _ _ _ _ w ha _ => by simp [execOp, ha.eval hx, ha.eval hy, eqGuard_leq, binOp_leq]
theorem Yl.gtr {x y : Operand} {xt yt : TypeId} {k : IntKind} {a b : Int} (hx : Env.ev e x = some (.int k a)) (hy : Env.ev e y = some (.int k b)) :
    Yl P e L ⟨d, .binOp .gtr xt x y yt, ty, pos, af, g⟩ (.bool (decide (b < a))) :=
  Yl.of rfl fun _ _ _ _ w ha _ => by simp [execOp, ha.eval hx, ha.eval hy, eqGuard_gtr, binOp_gtr]
theorem Yl.geq {x y : Operand} {xt yt : TypeId} {k : IntKind} {a b : Int} (hx : Env.ev e x = some (.int k a)) (hy : Env.ev e y = some (.int k b)) :
    Yl P e L ⟨d, .binOp .geq xt x y yt, ty, pos, af, g⟩ (.bool (decide (b ≤ a))) :=
  Yl.of rfl fun _ _ _ _ w ha _ => by simp [execOp, ha.eval hx, ha.eval hy, eqGuard_geq, binOp_geq]
theorem Yl.eql {x y : Operand} {xt yt : TypeId} {k : IntKind} {a b : Int} (hx : Env.ev e x = some (.int k a)) (hy : Env.ev e y = some (.int k b)) :
    Yl P e L ⟨d, .binOp .eql xt x y yt, ty, pos, af, g⟩ (.bool (decide (a = b))) :=
  Yl.of rfl fun _ _ _ _ w ha _ => by
    simp [execOp, ha.eval hx, ha.eval hy, eqGuard_at_int, binOp_eql]
    by_cases h : a = b <;> simp [h]
theorem Yl.neq {x y : Operand} {xt yt : TypeId} {k : IntKind} {a b : Int} (hx : Env.ev e x = some (.int k a)) (hy : Env.ev e y = some (.int k b)) :
    Yl P e L ⟨d, .binOp .neq xt x y yt, ty, pos, af, g⟩ (.bool (decide (a ≠ b))) :=
  Yl.of rfl fun _ _ _ _ w ha _ => by
    simp [execOp, ha.eval hx, ha.eval hy, eqGuard_at_int, binOp_neq]
    by_cases h : a = b <;> simp [h]
theorem Yl.not {x : Operand} {xt : TypeId} {b : Bool} (hx : Env.ev e x = some (.bool b)) : Yl P e L ⟨d, .unOp .not xt x, ty, pos, af, g⟩ (.bool (!b)) :=
  Yl.of rfl fun _ _ _ _ w ha _ => by simp [execOp, ha.eval hx, Op.unary]
theorem Yl.neg {x : Operand} {xt : TypeId} {a : Int} (hx : Env.ev e x = some (.int .i64 a)) (h : -9223372036854775808 ≤ -a ∧ -a ≤ 9223372036854775807) :
    Yl P e L ⟨d, .unOp .neg xt x, ty, pos, af, g⟩ (.int .i64 (-a)) :=
  Yl.of rfl fun _ _ _ _ w ha _ => by simp [execOp, ha.eval hx, Op.unary, Op.intArith, wrap_i64 h.1 h.2]

/-! #### slices -/
theorem Yl.len {x : Operand} {T E sz : Nat} {a : Option Addr} {m c : Nat} (hT : SliceT P T E sz) (hx : Env.ev e x = some (.slice a m c)) :
    Yl P e L ⟨d, .call { callee := .builtin .len, args := #[x], argTypes := #[T] }, ty, pos, af, g⟩ (.int .i64 (m : Int)) :=
  Yl.of rfl fun _ _ _ _ w ha _ => by simp [execOp, resolve, invoke, builtin, ha.eval hx, Builtin.len_, run_underlying hT.1, goInt]

end
end Go.Yb
