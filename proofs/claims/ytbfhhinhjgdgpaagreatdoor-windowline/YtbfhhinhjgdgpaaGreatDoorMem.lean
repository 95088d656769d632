/-
  A part of the proof of windowLine_holds: see the text that holds it. No conditions of its own.
-/
import Derived.Test.YtbfhhinhjgdgpaaGreatDoorDraw
import Derived.Laws.MakeOwn
import Derived.Laws.CopyOwn
import Derived.Laws.StructEq
import Derived.Laws.Bits64
import Derived.Laws.BitsLemmas
namespace Go.Yb
open Go Go.RowKit

/-! ### Slices that stay -/

/-- the slice '.slice a n c' has the elements xs, each of sz cells -/
def Sl (sz : Nat) (a : Option Addr) (n c : Nat) (xs : List (List Value)) : Imm → Prop := fun I =>
  xs.length = n ∧ n ≤ c ∧ c ≤ maxLen ∧ ∀ i x, xs[i]? = some x → x.length = sz ∧ ∃ p cs E fr, a = some p ∧ p.spot = none ∧ I p.block = some (.cells cs E fr) ∧ ∀ j, j < sz → cs[p.off + (i * sz + j)]? = x[j]?

theorem flat_get {xs : List (List Value)} {sz : Nat} (h : ∀ x ∈ xs, x.length = sz) : ∀ {i : Nat} {x : List Value}, xs[i]? = some x → ∀ j, j < sz → (xs.flatten)[i * sz + j]? = x[j]? := by
 induction xs with
 | nil => intro i x hx; simp at hx
 | cons y ys ih =>
  intro i x hx j hj
  have hy := h y List.mem_cons_self
  cases i with
  | zero =>
   simp only [List.getElem?_cons_zero, Option.some.injEq] at hx
   subst hx
   simp only [Nat.zero_mul, Nat.zero_add, List.flatten_cons]
   rw [List.getElem?_append_left (by omega)]
  | succ i =>
   simp only [List.getElem?_cons_succ] at hx
   have := ih (fun x hx => h x (List.mem_cons_of_mem _ hx)) hx j hj
   simp only [List.flatten_cons]
   rw [List.getElem?_append_right (by rw [hy, Nat.succ_mul]; omega), hy, ← this]
   congr 1
   rw [Nat.succ_mul]; omega

/-- a row of our own is left as it is from now on -/
theorem Ent.seal_row {a : Option Addr} {n c E sz : Nat} {xs : List (List Value)} {L : List Res} (hl : xs.length = n) (hx : ∀ x ∈ xs, x.length = sz) :
  Ent (.arr (.slice a n c) E sz n xs.flatten :: L) (.imm (Sl sz a n c xs) :: L) := by
 rintro κ w ⟨hs, I, h1, h2, h3, h4⟩
 have hown : w.ownsRow 0 E sz (.slice a n c) n xs.flatten := h2 _ List.mem_cons_self
 rcases hown.2 with ⟨hv, hn⟩ | ⟨g, cap, cur, hv, _, hg, hnc, hcm, hcs, htake⟩
 ·cases hv
  have hx0 : xs = [] := List.eq_nil_of_length_eq_zero hl
  subst hx0
  refine ⟨hs, I, h1, fun r hr => ?_, ?_, fun b hb => ?_⟩
  ·rcases List.mem_cons.1 hr with rfl | hr
   ·exact fun I' _ => ⟨rfl, Nat.le_refl _, by unfold maxLen; omega, by simp⟩
   ·exact h2 r (List.mem_cons_of_mem _ hr)
  ·simpa only [fps, List.flatMap_cons, Res.fp, Value.ownBlock, Option.toList_none, List.nil_append] using h3
  ·exact h4 b (by simpa only [fps, List.flatMap_cons, Res.fp, Value.ownBlock, Option.toList_none, List.nil_append] using hb)
 ·cases hv
  refine Ent.shutR (r := .arr (.slice (some ⟨g, 0, none⟩) n c) E sz n xs.flatten) (b := g) rfl (fun I w' hsat => ?_) κ w ⟨hs, I, h1, h2, h3, h4⟩
  rcases hsat.2 with ⟨hv, _⟩ | ⟨g', cap', cur', hv', _, hg', hnc', hcm', hcs', htake'⟩
  ·cases hv
  ·cases hv'
   refine ⟨_, hg', fun I' hI' => ⟨hl, hnc', hcm', fun i x hix => ?_⟩⟩
   have hxl := hx x (List.mem_of_getElem? hix)
   refine ⟨hxl, _, _, _, _, rfl, rfl, hI', fun j hj => ?_⟩
   rw [Nat.zero_add]
   have hlt : i < n := by rw [← hl]; exact (List.getElem?_eq_some_iff.1 hix).1
   have hb : i * sz + j < n * sz := by
    have : (i + 1) * sz ≤ n * sz := Nat.mul_le_mul_right _ hlt
    rw [Nat.succ_mul] at this; omega
   have h5 := flat_get hx hix j hj
   rw [← htake', List.getElem?_take_of_lt hb] at h5
   simpa using h5

section
variable {P : Program} {r : Option Nat} {n : Nat} {K : Post} {Q : Exit → Post} {e : Env} {ds : List Deferred} {L L' : List Res}
variable {d : Option Tmp} {ty : TypeId} {pos : String} {af : Array Edge} {g : Option (Nat × Bool)}

theorem St.imm_at {κ : Strm} {w : World} {p : Imm → Prop} (h : St κ L w) (hp : Pick (.imm p) L L') : ∃ I : Imm, (∀ b o, I b = some o → w.heap[b]? = some o) ∧ p I := by
 obtain ⟨_, I, h1, h2, _, _⟩ := h
 exact ⟨I, h1, h2 _ (hp.perm.mem_iff.2 List.mem_cons_self) I (fun _ _ h => h)⟩

/-- a fact that the resources give -/
theorem W.fact {c : Code} {φ : Prop} (h : ∀ κ w, St κ L w → φ) (k : φ → W P r n c K Q e ds L) : W P r n c K Q e ds L := fun κ w a ha hs => k (h κ w hs) κ w a ha hs
theorem OW.fact {ops : Array Oper} {l : List Oper} {φ : Prop} (h : ∀ κ w, St κ L w → φ) (k : φ → OW P r n ops l K Q e ds L) : OW P r n ops l K Q e ds L := fun κ w a ha hs => k (h κ w hs) κ w a ha hs
theorem AW.fact {ops : Array Oper} {fuel : Nat} {listed : Array Bool} {G : Held} {φ : Prop} (h : ∀ κ w, St κ L w → φ) (k : φ → AW P r n ops K Q fuel listed G e ds L) : AW P r n ops K Q fuel listed G e ds L := fun κ w a ha hs => k (h κ w hs) κ w a ha hs

theorem Sl.isSome {sz : Nat} {a : Option Addr} {m c : Nat} {xs : List (List Value)} (hp : Pick (.imm (Sl sz a m c xs)) L L') (h0 : 0 < m) : ∀ κ w, St κ L w → ∃ p, a = some p := fun κ w hs => by
  obtain ⟨I, _, h⟩ := hs.imm_at hp
  obtain ⟨hl, _, _, h⟩ := h
  have hlt : 0 < xs.length := by omega
  obtain ⟨_, p, _, _, _, hpa, _⟩ := h 0 _ (List.getElem?_eq_getElem hlt)
  exact ⟨p, hpa⟩
theorem Sl.bound {sz : Nat} {a : Option Addr} {m c : Nat} {xs : List (List Value)} (hp : Pick (.imm (Sl sz a m c xs)) L L') : ∀ κ w, St κ L w → m ≤ c ∧ c ≤ 9223372036854775807 := fun κ w hs => by
  obtain ⟨I, _, h⟩ := hs.imm_at hp
  exact ⟨h.2.1, by have := h.2.2.1; unfold maxLen at this; omega⟩

theorem Yl.indexS {T E sz : Nat} {x y : Operand} {p : Addr} {m c : Nat} {k : IntKind} {j : Int} (i : Nat) (hT : SliceT P T E sz) (hx : Env.ev e x = some (.slice (some p) m c)) (hy : Env.ev e y = some (.int k j))
    (hj : j = (i : Int)) (hlt : i < m) : Yl P e L ⟨d, .indexAddr T x y, ty, pos, af, g⟩ (.pointer (some (p.add (i * sz)))) :=
  Yl.of rfl fun _ _ _ _ w ha _ => by
    have h2 := hT.2 w
    simp only [execOp, ha.eval hx, ha.eval hy, Instr.indexAt, asIntOf, Sem.run_bind, Sem.run_pure, Result.andThen_ok, run_underlying hT.1, hj]
    have h1 : (0 : Int) ≤ (i : Int) ∧ (i : Int) < (m : Int) := by omega
    simp [h1, h2]

theorem Addr.add_spot {p : Addr} (h : p.spot = none) (k : Nat) : (p.add k).spot = none ∧ (p.add k).block = p.block ∧ (p.add k).off = p.off + k := by
 unfold Addr.add
 split
 ·rename_i h0; subst h0; exact ⟨h, rfl, rfl⟩
 ·exact ⟨rfl, rfl, rfl⟩

theorem cell_of_imm {w : World} {I : Imm} {p : Addr} {cs : Array Value} {E : TypeId} {fr : Nat × Nat} (hI : ∀ b o, I b = some o → w.heap[b]? = some o) (hp : I p.block = some (.cells cs E fr)) (h0 : p.spot = none) (k : Nat) :
  w.cell? (p.add k) = cs[p.off + k]? := by
 obtain ⟨h1, h2, h3⟩ := Addr.add_spot h0 k
 simp [World.cell?, h1, h2, h3, hI _ _ hp]

theorem Sl.cells {sz : Nat} {p : Addr} {m c i : Nat} {xs : List (List Value)} {x : List Value} {κ : Strm} {w : World} (hs : St κ L w) (hp : Pick (.imm (Sl sz (some p) m c xs)) L L') (hx : xs[i]? = some x) :
  x.length = sz ∧ ∀ k v, x[k]? = some v → w.cell? ((p.add (i * sz)).add k) = some v := by
 obtain ⟨I, hI, h⟩ := hs.imm_at hp
 obtain ⟨_, _, _, h⟩ := h
 obtain ⟨hl, p', cs, E, fr, hpp, h0, hIp, hc⟩ := h i x hx
 cases hpp
 refine ⟨hl, fun k v hk => ?_⟩
 have hlt : k < sz := by rw [← hl]; exact (List.getElem?_eq_some_iff.1 hk).1
 obtain ⟨h1, h2, h3⟩ := Addr.add_spot h0 (i * sz)
 rw [cell_of_imm (p := p.add (i * sz)) hI (by rw [h2]; exact hIp) h1 k, h3, Nat.add_assoc, hc k hlt, hk]

theorem Yl.loadS {T : TypeId} {sz i k : Nat} {x : Operand} {p : Addr} {m c : Nat} {xs : List (List Value)} {u : List Value} {v : Value} (hT : ScalarT P T) (hx : Env.ev e x = some (.pointer (some ((p.add (i * sz)).add k))))
    (hp : Pick (.imm (Sl sz (some p) m c xs)) L L') (hu : xs[i]? = some u) (hv : AtI u k v) : Yl P e L ⟨d, .load T x, ty, pos, af, g⟩ v :=
  Yl.of rfl fun _ _ _ _ w ha hs => by
    have hc := (Sl.cells hs hp hu).2 k v hv.get
    simp [execOp, ha.eval hx, Instr.loadAt, Instr.sureAddr, loadVar, hT w, hc]
theorem Yl.loadS0 {T : TypeId} {sz i : Nat} {x : Operand} {p : Addr} {m c : Nat} {xs : List (List Value)} {u : List Value} {v : Value} (hT : ScalarT P T) (hx : Env.ev e x = some (.pointer (some (p.add (i * sz)))))
    (hp : Pick (.imm (Sl sz (some p) m c xs)) L L') (hu : xs[i]? = some u) (hv : AtI u 0 v) : Yl P e L ⟨d, .load T x, ty, pos, af, g⟩ v :=
  Yl.of rfl fun _ _ _ _ w ha hs => by
    have hc := (Sl.cells hs hp hu).2 0 v hv.get
    rw [Addr.add_zero'] at hc
    simp [execOp, ha.eval hx, Instr.loadAt, Instr.sureAddr, loadVar, hT w, hc]
/-- the whole element -/
theorem Yl.loadE {T : TypeId} {sz i : Nat} {x : Operand} {p : Addr} {m c : Nat} {xs : List (List Value)} {u : List Value} (hT : AggT P T sz) (hx : Env.ev e x = some (.pointer (some (p.add (i * sz)))))
    (hp : Pick (.imm (Sl sz (some p) m c xs)) L L') (hu : xs[i]? = some u) : Yl P e L ⟨d, .load T x, ty, pos, af, g⟩ (.agg u.toArray) :=
  Yl.of rfl fun _ _ _ _ w ha hs => by
    obtain ⟨hl, hc⟩ := Sl.cells hs hp hu
    have hr := run_loadCells_list (P := P) (w := w) (p.add (i * sz)) u hc
    rw [hl] at hr
    simp [execOp, ha.eval hx, Instr.loadAt, Instr.sureAddr, loadVar, hT.1 w, hT.2 w, hr]

/-- fields, at any address -/
def FieldA (P : Program) (T : TypeId) (f off : Nat) : Prop := ∀ a w, (Instr.fieldAt T (.pointer (some a)) f).run P w = .ok (.pointer (some (a.add off))) w
theorem fieldA {T f off m : Nat} {fs : Array Field} {fd : Field} (hu : P.underlying T = some (.struct fs)) (hf : fs[f]? = some fd) (ho : fd.offset = off) (hs : ∀ w, (sizeOf fd.type).run P w = .ok m w) (hm : m ≠ 0) : FieldA P T f off := fun a w => by
  simp [Instr.fieldAt, run_underlying hu, hf, Instr.sureAddr, fieldPlace, hs, hm, ho]
theorem FieldA.t {T f off : Nat} (h : FieldA P T f off) : FieldT P T f off := fun _ _ w => h _ w
theorem Yl.fieldA {T : TypeId} {x : Operand} {a : Addr} {f off : Nat} (hT : FieldA P T f off) (hx : Env.ev e x = some (.pointer (some a))) :
    Yl P e L ⟨d, .fieldAddr T x f, ty, pos, af, g⟩ (.pointer (some (a.add off))) :=
  Yl.of rfl fun _ _ _ _ w ha _ => by simp [execOp, ha.eval hx, hT a w]
/-- a field of a block of our own -/
theorem Yl.fieldL {T : TypeId} {x : Operand} {b o f off : Nat} (o' : Nat) (hT : FieldA P T f off) (hx : Env.ev e x = some (.pointer (some ⟨b, o, none⟩))) (ho : o + off = o') :
    Yl P e L ⟨d, .fieldAddr T x f, ty, pos, af, g⟩ (.pointer (some ⟨b, o', none⟩)) :=
  Yl.of rfl fun _ _ _ _ w ha _ => by simp [execOp, ha.eval hx, hT _ w, Addr.add_lit, ho]

/-! ### Structs by parts -/
inductive FillI : List (Nat × Nat) → List Value → List (Nat × Value) → List Value → Prop
  | nil {ps : List (Nat × Nat)} {cs : List Value} : FillI ps cs [] cs
  | cons {ps : List (Nat × Nat)} {cs cs' out us : List Value} {i off sz : Nat} {v : Value} {rest : List (Nat × Value)} : ps[i]? = some (off, sz) → CellsI v us → us.length = sz → PutI cs off us cs' → FillI ps cs' rest out → FillI ps cs ((i, v) :: rest) out

theorem fold_put (off : Nat) : ∀ (us : List Value) (k : Nat) (cs : List Value), off + k + us.length ≤ cs.length →
    (us.zipIdx k).foldl (fun (cs : Array Value) (x : Value × Nat) => cs.setIfInBounds (off + x.2) x.1) cs.toArray = (cs.take (off + k) ++ us ++ cs.drop (off + k + us.length)).toArray
  | [], k, cs, _ => by simp
  | u :: us, k, cs, h => by
    have h1 : off + (k + 1) + us.length ≤ (cs.set (off + k) u).length := by simp at h ⊢; omega
    have ih := fold_put off us (k + 1) (cs.set (off + k) u) h1
    simp only [List.zipIdx_cons, List.foldl_cons, List.setIfInBounds_toArray]
    rw [ih]
    congr 1
    have hlt : off + k < cs.length := by simp at h; omega
    rw [List.drop_set_of_lt (by omega), List.length_cons, show off + (k + 1) = (off + k) + 1 from by omega, List.take_succ_eq_append_getElem (by simpa using hlt), List.take_set_of_le (Nat.le_refl _)]
    simp [Nat.add_assoc, Nat.add_comm 1]

theorem PutI.fold {cs us cs' : List Value} {off : Nat} (h : PutI cs off us cs') :
  us.toArray.zipIdx.foldl (fun (cs : Array Value) (x : Value × Nat) => cs.setIfInBounds (off + x.2) x.1) cs.toArray = cs'.toArray := by
 obtain ⟨h1, h2⟩ := h.spec
 rw [h2, ← Array.foldl_toList]
 have := fold_put off us 0 cs (by simpa using h1)
 simpa using this

theorem FillI.run {ps : List (Nat × Nat)} {cs out : List Value} {parts : List (Nat × Value)} (h : FillI ps cs parts out) (place : Nat → Option (Nat × Nat)) (hp : ∀ i x, ps[i]? = some x → place i = some x) :
  Instr.fill place cs.toArray parts = some out.toArray := by
 induction h with
 | nil => rfl
 | @cons cs cs' out us i off sz v rest h1 h2 h3 h4 _ ih =>
  have hsz : off + us.length ≤ cs.length := h4.spec.1
  simp only [Instr.fill, hp _ _ h1, h2.eq]
  have hc : ¬ (us.toArray.size ≠ sz || off + us.toArray.size > cs.toArray.size) = true := by simp [h3]; omega
  rw [if_neg hc]
  have := h4.fold
  rw [show (us.toArray.zipIdx.foldl (fun cs x => match x with | (c, j) => cs.setIfInBounds (off + j) c) cs.toArray) = cs'.toArray from this]
  exact ih

def StructT (P : Program) (T : TypeId) (zs : List Value) (ps : List (Nat × Nat)) : Prop :=
  (∀ w, (zeroValue T).run P w = .ok (.agg zs.toArray) w) ∧ ∃ fs, P.underlying T = some (.struct fs) ∧ ∀ w, (fs.mapM fun f => (do pure (f.offset, ← sizeOf f.type) : Sem (Nat × Nat))).run P w = .ok ps.toArray w


theorem Yl.build {T : TypeId} {parts : Array (Nat × Operand)} {zs out : List Value} {ps : List (Nat × Nat)} {is : List Nat} {xs : List Operand} {vs : List Value} (hT : StructT P T zs ps) (hpa : parts = (is.zip xs).toArray) (hx : Env.evs e xs = some vs)
  (hf : FillI ps zs (is.zip vs) out) : Yl P e L ⟨d, .build T parts, ty, pos, af, g⟩ (.agg out.toArray) :=
 Yl.of rfl fun _ _ _ a w ha _ => by
  obtain ⟨hz, fs, hu, hm⟩ := hT
  have hv : (parts.map fun (i, x) => (i, a.eval x)).toList = is.zip vs := by
   rw [hpa, ← ha.evals hx]
   simp [List.zip_map_right]
  have hfill := hf.run (ps.toArray[·]?) (fun i x h => by simpa using h)
  simp only [execOp, Instr.build, Sem.run_bind, hz w, Result.andThen_ok, run_underlying hu, hm w, Value.cells, hv, hfill, Sem.run_pure]


/-! ### Rules at a stroke -/
theorem OW.box {ops : Array Oper} {l : List Oper} {T : TypeId} {x : Operand} {v : Value} {us : List Value} (hw : Wn ops e ⟨d, .box T x, ty, pos, af, g⟩ true) (hd : dstOk n d = true) (hx : Env.ev e x = some v) (hc : CellsI v us)
    (k : ∀ b, OW P r n ops l K Q (Env.put e d (.pointer (some ⟨b, 0, none⟩))) ds (.cell b us T :: L)) : OW P r n ops (⟨d, .box T x, ty, pos, af, g⟩ :: l) K Q e ds L :=
  OW.ex hw hd (Ex.box hx hc) fun v' L' ⟨b, h1, h2⟩ => by subst h1 h2; exact k b
theorem OW.alloc {ops : Array Oper} {l : List Oper} {T : TypeId} {z : Value} {us : List Value} (hw : Wn ops e ⟨d, .alloc T, ty, pos, af, g⟩ true) (hd : dstOk n d = true) (hz : ZeroT P T z) (hc : CellsI z us)
    (k : ∀ b, OW P r n ops l K Q (Env.put e d (.pointer (some ⟨b, 0, none⟩))) ds (.cell b us T :: L)) : OW P r n ops (⟨d, .alloc T, ty, pos, af, g⟩ :: l) K Q e ds L :=
  OW.ex hw hd (Ex.alloc hz hc) fun v' L' ⟨b, h1, h2⟩ => by subst h1 h2; exact k b
theorem OW.store {ops : Array Oper} {l : List Oper} {T : TypeId} {x y : Operand} {b off k : Nat} {vs us vs' : List Value} {TT : TypeId} {v : Value} (hw : Wn ops e ⟨none, .store T x y, ty, pos, af, g⟩ true) (hT : SizeT P T k) (hx : Env.ev e x = some (.pointer (some ⟨b, off, none⟩)))
    (hy : Env.ev e y = some v) (hc : CellsI v us) (ho : OneI us) (hk : us.length = k) (hp : Pick (.cell b vs TT) L L') (hv : PutI vs off us vs')
    (kk : OW P r n ops l K Q e ds (.cell b vs' TT :: L')) : OW P r n ops (⟨none, .store T x y, ty, pos, af, g⟩ :: l) K Q e ds L :=
  OW.ex hw rfl (Ex.store hT hx hy hc ho hk hp hv) fun v' L1 h1 => by subst h1; exact kk

/-- a contract that tells the value alone -/
def FnV (P : Program) (f : FuncId) (args : Array Value) (L : List Res) (v : Value) : Prop := FnC P f args L (fun v' L' => v' = v ∧ L' = [])

theorem FnC.tri0 {f : FuncId} {args : Array Value} {R : Value → List Res → Prop} (hc : ∀ args w, (callFunc f args).run P w = .ok (.enter f args) w) (h : FnC P f args L R) : Tri P (.func (.func f) #[] #[]) args L R := fun Lf κ w hs =>
  ⟨{ target := .fn (.func f) #[], args := #[] ++ args }, w, .enter f args, w, rfl, by simp [invoke, hc], h Lf κ w hs⟩
theorem FnC.triC {f : FuncId} {first cap args : List Value} {R : Value → List Res → Prop} (hc : ∀ args w, (callFunc f args).run P w = .ok (.enter f args) w) (h : FnC P f (first ++ args ++ cap).toArray L R) :
    Tri P (.func (.func f) first.toArray cap.toArray) args.toArray L R := fun Lf κ w hs =>
  ⟨{ target := .fn (.func f) cap.toArray, args := first.toArray ++ args.toArray }, w, .enter f (first ++ args ++ cap).toArray, w, rfl, by simp [invoke, hc], h Lf κ w hs⟩

theorem OW.call {ops : Array Oper} {l : List Oper} {fo : Operand} {args : Array Operand} {ats : Array TypeId} {fv : Value} {vs : List Value} {L1 L2 : List Res} {R : Value → List Res → Prop}
    (hw : Wn ops e ⟨d, .call { callee := .value fo, args := args, argTypes := ats }, ty, pos, af, g⟩ true) (hd : dstOk n d = true) (hf : Env.ev e fo = some fv) (ha : Env.evs e args.toList = some vs)
    (h : Tri P fv vs.toArray L1 R) (hs : Split L L1 L2) (k : ∀ v L', R v L' → OW P r n ops l K Q (Env.put e d v) ds (L' ++ L2)) :
    OW P r n ops (⟨d, .call { callee := .value fo, args := args, argTypes := ats }, ty, pos, af, g⟩ :: l) K Q e ds L :=
  OW.ex hw hd (Ex.call rfl hf ha h hs) fun v L' ⟨L1', h1, h2⟩ => by subst h2; exact k v L1' h1

theorem OW.callv {ops : Array Oper} {l : List Oper} {f : FuncId} {args : Array Operand} {ats : Array TypeId} {vs : List Value} {L1 L2 : List Res} {v : Value}
    (hw : Wn ops e ⟨d, .call { callee := .value (.func f), args := args, argTypes := ats }, ty, pos, af, g⟩ true) (hd : dstOk n d = true) (hc : ∀ args w, (callFunc f args).run P w = .ok (.enter f args) w) (ha : Env.evs e args.toList = some vs)
    (h : FnV P f vs.toArray L1 v) (hs : Split L L1 L2) (k : OW P r n ops l K Q (Env.put e d v) ds L2) :
    OW P r n ops (⟨d, .call { callee := .value (.func f), args := args, argTypes := ats }, ty, pos, af, g⟩ :: l) K Q e ds L :=
  OW.call hw hd rfl ha (FnC.tri0 hc h) hs fun v' L' ⟨h1, h2⟩ => by subst h1 h2; exact k

/-! ### The end -/
inductive Drops : List Res → List Res → Prop
  | refl {L : List Res} : Drops L L
  | cons {x : Res} {L L' : List Res} : Drops L L' → Drops (x :: L) L'
theorem Drops.ent {L L' : List Res} (h : Drops L L') : Ent L L' := by
 induction h with
 | refl => exact Ent.refl _
 | cons _ ih => exact (Ent.drop _ _).trans ih

theorem Drops.app {L L' : List Res} (h : Drops L L') (A : List Res) : Ent (A ++ L) (A ++ L') := by
 induction h with
 | refl => exact Ent.refl _
 | @cons x L L' _ ih => exact (Ent.perm List.perm_middle).trans ((Ent.drop x _).trans ih)

theorem Fin.mk {fn : Func} {R : Value → List Res → Prop} {Lf L1 L2 : List Res} {v : Value} (hr : Rsl P fn e L v) (hR : R v L1) (hs : Split L L1 L2) (hd : Drops L2 Lf) : Fin P fn R Lf e [] L :=
  ⟨[], v, L1, L, rfl, Ent.refl _, hr, hR, hs.ent.trans (hd.app L1)⟩
theorem Fin.v {fn : Func} {Lf : List Res} {v : Value} (hr : Rsl P fn e L v) (hd : Drops L Lf) : Fin P fn (fun v' L' => v' = v ∧ L' = []) Lf e [] L :=
  Fin.mk hr ⟨rfl, rfl⟩ .nil hd

theorem FnC.go {f : FuncId} {fn : Func} {m : Nat} {c : Code} {args : List Value} {R : Value → List Res → Prop} (hf : P.funcs[f]? = some fn) (hn : fn.ntmps = m) (hb : fn.body = some c) (hl : args.length ≤ m)
  (h : ∀ Lf, W P none m c (Fin P fn R Lf) (fun ex => match ex with | .ret => Fin P fn R Lf | _ => fun _ _ _ => False) (env0 0 args) [] (L ++ Lf)) : FnC P f args.toArray L R := by
 subst hn
 exact FnC.enter hf hb hl h

/-! ### More on numbers -/
theorem run_eqb {t : TypeId} (a b : Bool) (w : World) (hT : P.underlying t = some .bool) : (binOp .eql t (.bool a) (.bool b)).run P w = .ok (.bool (a == b)) w := by
 have h := run_equalIn_bool (P := P) w 9999 t a b hT
 show (Op.equal t (.bool a) (.bool b) >>= fun r => (pure (Value.bool r) : Sem Value)).run P w = _
 rw [Sem.run_bind, show Op.equal t (.bool a) (.bool b) = Op.equalIn 10000 t (.bool a) (.bool b) from rfl, h]; rfl
theorem run_neb {t : TypeId} (a b : Bool) (w : World) (hT : P.underlying t = some .bool) : (binOp .neq t (.bool a) (.bool b)).run P w = .ok (.bool (!(a == b))) w := by
 have h := run_equalIn_bool (P := P) w 9999 t a b hT
 show (Op.equal t (.bool a) (.bool b) >>= fun r => (pure (Value.bool (!r)) : Sem Value)).run P w = _
 rw [Sem.run_bind, show Op.equal t (.bool a) (.bool b) = Op.equalIn 10000 t (.bool a) (.bool b) from rfl, h]; rfl
theorem Yl.eqlb {x y : Operand} {xt yt : TypeId} {a b : Bool} (hT : P.underlying xt = some .bool) (hx : Env.ev e x = some (.bool a)) (hy : Env.ev e y = some (.bool b)) :
    Yl P e L ⟨d, .binOp .eql xt x y yt, ty, pos, af, g⟩ (.bool (a == b)) :=
  Yl.of rfl fun _ _ _ _ w ha _ => by simp only [execOp, ha.eval hx, ha.eval hy, eqGuard_at_bool, Sem.run_bind, Sem.run_pure, Result.andThen_ok, run_eqb a b w hT]
theorem Yl.neqb {x y : Operand} {xt yt : TypeId} {a b : Bool} (hT : P.underlying xt = some .bool) (hx : Env.ev e x = some (.bool a)) (hy : Env.ev e y = some (.bool b)) :
    Yl P e L ⟨d, .binOp .neq xt x y yt, ty, pos, af, g⟩ (.bool (!(a == b))) :=
  Yl.of rfl fun _ _ _ _ w ha _ => by simp only [execOp, ha.eval hx, ha.eval hy, eqGuard_at_bool, Sem.run_bind, Sem.run_pure, Result.andThen_ok, run_neb a b w hT]
theorem Yl.addW {x y : Operand} {xt yt : TypeId} {k : IntKind} {a b c : Int} (hx : Env.ev e x = some (.int k a)) (hy : Env.ev e y = some (.int k b)) (h : k.wrap (a + b) = c) :
    Yl P e L ⟨d, .binOp .add xt x y yt, ty, pos, af, g⟩ (.int k c) :=
  Yl.of rfl fun _ _ _ _ w ha _ => by simp [execOp, ha.eval hx, ha.eval hy, eqGuard_add, binOp_add, Op.intArith, h]
theorem Yl.subW {x y : Operand} {xt yt : TypeId} {k : IntKind} {a b c : Int} (hx : Env.ev e x = some (.int k a)) (hy : Env.ev e y = some (.int k b)) (h : k.wrap (a - b) = c) :
    Yl P e L ⟨d, .binOp .sub xt x y yt, ty, pos, af, g⟩ (.int k c) :=
  Yl.of rfl fun _ _ _ _ w ha _ => by simp [execOp, ha.eval hx, ha.eval hy, eqGuard_sub, binOp_sub, Op.intArith, h]
theorem Yl.mulW {x y : Operand} {xt yt : TypeId} {k : IntKind} {a b c : Int} (hx : Env.ev e x = some (.int k a)) (hy : Env.ev e y = some (.int k b)) (h : k.wrap (a * b) = c) :
    Yl P e L ⟨d, .binOp .mul xt x y yt, ty, pos, af, g⟩ (.int k c) :=
  Yl.of rfl fun _ _ _ _ w ha _ => by simp [execOp, ha.eval hx, ha.eval hy, eqGuard_mul, binOp_mul, Op.intArith, h]
theorem Yl.quo {x y : Operand} {xt yt : TypeId} {k : IntKind} {a b c : Int} (hx : Env.ev e x = some (.int k a)) (hy : Env.ev e y = some (.int k b)) (h0 : b ≠ 0) (h : k.wrap (a.tdiv b) = c) :
    Yl P e L ⟨d, .binOp .quo xt x y yt, ty, pos, af, g⟩ (.int k c) :=
  Yl.of rfl fun _ _ _ _ w ha _ => by simp [execOp, ha.eval hx, ha.eval hy, eqGuard_quo, binOp_quo, Op.intDiv, h0, h]
theorem Yl.rem {x y : Operand} {xt yt : TypeId} {k : IntKind} {a b c : Int} (hx : Env.ev e x = some (.int k a)) (hy : Env.ev e y = some (.int k b)) (h0 : b ≠ 0) (h : a.tmod b = c) :
    Yl P e L ⟨d, .binOp .rem xt x y yt, ty, pos, af, g⟩ (.int k c) :=
  Yl.of rfl fun _ _ _ _ w ha _ => by simp [execOp, ha.eval hx, ha.eval hy, eqGuard_rem, binOp_rem, Op.intDiv, h0, h]
theorem Yl.conv {x : Operand} {s t : TypeId} {k k' : IntKind} {u : TypeDesc} {a c : Int} (hs : P.underlying s = some u) (ht : P.underlying t = some (.int k')) (hx : Env.ev e x = some (.int k a)) (h : k'.wrap a = c) :
    Yl P e L ⟨d, .convert s t x, ty, pos, af, g⟩ (.int k' c) :=
  Yl.of rfl fun _ _ _ _ w ha _ => by
    simp [execOp, ha.eval hx, convert, run_underlying hs, run_underlying ht, Conv.intToInt, h]


/-! ### Parting on a test -/
theorem OW.split {ops : Array Oper} {l : List Oper} {t : Nat} {b : Bool} (_h : Env.get e t = some (.bool b)) (h1 : b = true → OW P r n ops l K Q e ds L) (h2 : b = false → OW P r n ops l K Q e ds L) : OW P r n ops l K Q e ds L := by
 cases hb : b with
 | true => exact h1 hb
 | false => exact h2 hb
theorem AW.split {ops : Array Oper} {fuel : Nat} {listed : Array Bool} {G : Held} {t : Nat} {b : Bool} (_h : Env.get e t = some (.bool b)) (h1 : b = true → AW P r n ops K Q fuel listed G e ds L) (h2 : b = false → AW P r n ops K Q fuel listed G e ds L) : AW P r n ops K Q fuel listed G e ds L := by
 cases hb : b with
 | true => exact h1 hb
 | false => exact h2 hb
theorem W.cond_t1 {c : Operand} {x y : Code} {t : Bool} (hc : Env.ev e c = some (.bool t)) (ht : t = true) (h : W P r n x K Q e ds L) : W P r n (.cond c x y) K Q e ds L := W.cond hc (fun _ => h) (fun h' => by rw [ht] at h'; cases h')
theorem W.cond_f1 {c : Operand} {x y : Code} {t : Bool} (hc : Env.ev e c = some (.bool t)) (ht : t = false) (h : W P r n y K Q e ds L) : W P r n (.cond c x y) K Q e ds L := W.cond hc (fun h' => by rw [ht] at h'; cases h') (fun _ => h)
theorem bnot_t {b : Bool} (h : b = true) : (!b) = false := by rw [h]; rfl
theorem bnot_f {b : Bool} (h : b = false) : (!b) = true := by rw [h]; rfl

/-! ### Results that lie in memory -/
def RvI (P : Program) (e : Env) (L : List Res) (rv : ResultVar) (v : Value) : Prop := ∀ n ds κ a w, Has n ds e a → St κ L w → (match rv with | .tmp t => (pure (a.tmps.getD t undef) : Sem Value) | .cell p ty => (do loadVar ty (← asAddr (a.tmps.getD p undef)))).run P w = .ok v w
theorem RvI.tmp {t : Nat} {v : Value} (h : Env.get e t = some v) : RvI P e L (.tmp t) v := fun _ _ _ a w ha _ => by
  have := ha.2.2 t v h
  simp [this]
theorem RvI.cell {p k b off : Nat} {T TT : TypeId} {vs us : List Value} (hT : AggT P T k) (h : Env.get e p = some (.pointer (some ⟨b, off, none⟩))) (hp : Pick (.cell b vs TT) L L') (hv : SubI vs off k us) : RvI P e L (.cell p T) (.agg us.toArray) := fun _ _ _ a w ha hs => by
  have h1 := ha.2.2 p _ h
  obtain ⟨hl, hv⟩ := hv.spec
  have hc : ∀ j v, us[j]? = some v → w.cell? ((⟨b, off, none⟩ : Addr).add j) = some v := fun j v hj => by
    rw [Addr.add_lit, cell_of_row w b _ _ _ _ (hs.cell_at hp)]
    have hlt : j < k := by rw [← hl]; exact (List.getElem?_eq_some_iff.1 hj).1
    simpa [hj] using hv j hlt
  have hr := run_loadCells_list (P := P) (w := w) ⟨b, off, none⟩ us hc
  rw [hl] at hr
  simp [h1, asAddr, loadVar, hT.1 w, hT.2 w, hr]
theorem RvI.cell1 {p b off : Nat} {T TT : TypeId} {vs : List Value} {v : Value} (hT : ScalarT P T) (h : Env.get e p = some (.pointer (some ⟨b, off, none⟩))) (hp : Pick (.cell b vs TT) L L') (hv : AtI vs off v) : RvI P e L (.cell p T) v := fun _ _ _ a w ha hs => by
  have h1 := ha.2.2 p _ h
  have hc : w.cell? ⟨b, off, none⟩ = some v := by rw [cell_of_row w b off _ _ _ (hs.cell_at hp)]; simpa using hv.get
  simp [h1, asAddr, loadVar, hT w, hc]
theorem results_eq (fn : Func) (tmps : Array Value) : results fn tmps = (fn.results.mapM (fun rv => (match rv with | .tmp t => (pure (tmps.getD t undef) : Sem Value) | .cell p ty => (do loadVar ty (← asAddr (tmps.getD p undef)))))) >>= fun vs => pure (if h : vs.size = 1 then vs[0] else .tuple vs) := by
 unfold results
 congr 1
theorem Rsl.of1 {fn : Func} {r1 : ResultVar} {v1 : Value} (h : fn.results = #[r1]) (h1 : RvI P e L r1 v1) : Rsl P fn e L v1 := fun m ds κ a w ha hs => by
  have e1 := h1 m ds κ a w ha hs
  rw [results_eq, h]
  simp only [List.mapM_toArray, List.mapM_cons, List.mapM_nil, Sem.run_map, e1, Result.andThen_ok, bind_pure_comp, map_pure]
  simp
theorem Rsl.of2 {fn : Func} {r1 r2 : ResultVar} {v1 v2 : Value} (h : fn.results = #[r1, r2]) (h1 : RvI P e L r1 v1) (h2 : RvI P e L r2 v2) : Rsl P fn e L (.tuple #[v1, v2]) := fun m ds κ a w ha hs => by
  have e1 := h1 m ds κ a w ha hs
  have e2 := h2 m ds κ a w ha hs
  rw [results_eq, h]
  simp only [List.mapM_toArray, List.mapM_cons, List.mapM_nil, Sem.run_bind, Sem.run_map, e1, e2, Result.andThen_ok, bind_pure_comp, map_pure]
  simp
theorem Rsl.of3 {fn : Func} {r1 r2 r3 : ResultVar} {v1 v2 v3 : Value} (h : fn.results = #[r1, r2, r3]) (h1 : RvI P e L r1 v1) (h2 : RvI P e L r2 v2) (h3 : RvI P e L r3 v3) : Rsl P fn e L (.tuple #[v1, v2, v3]) := fun m ds κ a w ha hs => by
  have e1 := h1 m ds κ a w ha hs
  have e2 := h2 m ds κ a w ha hs
  have e3 := h3 m ds κ a w ha hs
  rw [results_eq, h]
  simp only [List.mapM_toArray, List.mapM_cons, List.mapM_nil, Sem.run_bind, Sem.run_map, e1, e2, e3, Result.andThen_ok, bind_pure_comp, map_pure]
  simp

theorem Yl.shr {x y : Operand} {xt yt : TypeId} {k k' : IntKind} {a s : Int} (m : Nat) (q : Int) (hx : Env.ev e x = some (.int k a)) (hy : Env.ev e y = some (.int k' s)) (hm : s = (m : Int)) (hle : m ≤ k.bits) (hq : (2 : Int) ^ m = q) :
    Yl P e L ⟨d, .binOp .shr xt x y yt, ty, pos, af, g⟩ (.int k (a / q)) :=
  Yl.of rfl fun _ _ _ _ w ha _ => by
    have h0 : ¬ s < 0 := by omega
    have h1 : min s.toNat k.bits = m := by rw [hm, Int.toNat_natCast]; exact Nat.min_eq_left hle
    have h2 : (0 : Int) ≤ q := by rw [← hq]; exact Int.le_of_lt (Int.pow_pos (by decide))
    simp only [execOp, ha.eval hx, ha.eval hy, eqGuard_shr, binOp_shr, Op.shift, h0, if_false, h1, Sem.run_bind, Sem.run_pure, Result.andThen_ok, hq, Int.fdiv_eq_ediv_of_nonneg a h2]
theorem Yl.shl {x y : Operand} {xt yt : TypeId} {k k' : IntKind} {a s c : Int} (m : Nat) (q : Int) (hx : Env.ev e x = some (.int k a)) (hy : Env.ev e y = some (.int k' s)) (hm : s = (m : Int)) (hle : m ≤ k.bits) (hq : (2 : Int) ^ m = q) (h : k.wrap (a * q) = c) :
    Yl P e L ⟨d, .binOp .shl xt x y yt, ty, pos, af, g⟩ (.int k c) :=
  Yl.of rfl fun _ _ _ _ w ha _ => by
    have h0 : ¬ s < 0 := by omega
    have h1 : min s.toNat k.bits = m := by rw [hm, Int.toNat_natCast]; exact Nat.min_eq_left hle
    simp only [execOp, ha.eval hx, ha.eval hy, eqGuard_shl, binOp_shl, Op.shift, h0, if_false, h1, Sem.run_bind, Sem.run_pure, Result.andThen_ok, hq, h]
theorem Yl.bits {x y : Operand} {xt yt : TypeId} {op : BinOp} {k : IntKind} {a b c : Int} (hop : (match op with | .and | .or | .xor | .andNot => true | _ => false) = true) (hx : Env.ev e x = some (.int k a)) (hy : Env.ev e y = some (.int k b)) (h : Go.bits op k a b = c) :
    Yl P e L ⟨d, .binOp op xt x y yt, ty, pos, af, g⟩ (.int k c) :=
  Yl.of rfl fun _ _ _ _ w ha _ => by
    subst h
    cases op <;> simp at hop <;>
    simp [execOp, ha.eval hx, ha.eval hy, binOp, Op.intBits, Go.bits, eqGuard_at_int]
theorem Yl.max2 {x y : Operand} {ats : Array TypeId} {k : IntKind} {a b : Int} (hx : Env.ev e x = some (.int k a)) (hy : Env.ev e y = some (.int k b)) :
    Yl P e L ⟨d, .call { callee := .builtin .max, args := #[x, y], argTypes := ats }, ty, pos, af, g⟩ (.int k (max a b)) :=
  Yl.of rfl fun _ _ _ _ w ha _ => by
    have : (if b > a then b else a) = max a b := by omega
    simp [execOp, resolve, invoke, builtin, Builtin.max_, Builtin.max2, ha.eval hx, ha.eval hy, List.foldlM, this]
theorem Yl.min2 {x y : Operand} {ats : Array TypeId} {k : IntKind} {a b : Int} (hx : Env.ev e x = some (.int k a)) (hy : Env.ev e y = some (.int k b)) :
    Yl P e L ⟨d, .call { callee := .builtin .min, args := #[x, y], argTypes := ats }, ty, pos, af, g⟩ (.int k (min a b)) :=
  Yl.of rfl fun _ _ _ _ w ha _ => by
    have : (if b < a then b else a) = min a b := by omega
    simp [execOp, resolve, invoke, builtin, Builtin.min_, Builtin.min2, ha.eval hx, ha.eval hy, List.foldlM, this]
theorem Yl.max3 {x y z : Operand} {ats : Array TypeId} {k : IntKind} {a b c : Int} (hx : Env.ev e x = some (.int k a)) (hy : Env.ev e y = some (.int k b)) (hz : Env.ev e z = some (.int k c)) :
    Yl P e L ⟨d, .call { callee := .builtin .max, args := #[x, y, z], argTypes := ats }, ty, pos, af, g⟩ (.int k (max (max a b) c)) :=
  Yl.of rfl fun _ _ _ _ w ha _ => by
    have h1 : (if b > a then b else a) = max a b := by omega
    have h2 : (if c > max a b then c else max a b) = max (max a b) c := by omega
    simp [execOp, resolve, invoke, builtin, Builtin.max_, Builtin.max2, ha.eval hx, ha.eval hy, ha.eval hz, List.foldlM, h1, h2]

theorem Tri.ext {f : FuncId} {args : Array Value} {v : Value} (h : ∀ w, (callFunc f args).run P w = .ok (.value v) w) : Tri P (.func (.func f) #[] #[]) args [] (fun v' L' => v' = v ∧ L' = []) := fun Lf κ w hs => by
  refine ⟨{ target := .fn (.func f) #[], args := #[] ++ args }, w, .value v, w, rfl, by simpa [invoke] using h w, v, [], rfl, ⟨rfl, rfl⟩, hs⟩
end
theorem bxor_t {p q : Prop} [Decidable p] [Decidable q] (h : (!(decide p == decide q)) = true) : (p ∧ ¬ q) ∨ (¬ p ∧ q) := by
 by_cases hp : p <;> by_cases hq : q <;> simp_all
theorem bxor_f {p q : Prop} [Decidable p] [Decidable q] (h : (!(decide p == decide q)) = false) : (p ∧ q) ∨ (¬ p ∧ ¬ q) := by
 by_cases hp : p <;> by_cases hq : q <;> simp_all
theorem beq_tt {p q : Prop} [Decidable p] [Decidable q] (h : (decide p == decide q) = true) : (p ∧ q) ∨ (¬ p ∧ ¬ q) := by
 by_cases hp : p <;> by_cases hq : q <;> simp_all
theorem beq_ff {p q : Prop} [Decidable p] [Decidable q] (h : (decide p == decide q) = false) : (p ∧ ¬ q) ∨ (¬ p ∧ q) := by
 by_cases hp : p <;> by_cases hq : q <;> simp_all
theorem dec_eq {p : Prop} [Decidable p] {b : Bool} (h1 : b = true → p) (h2 : b = false → ¬ p) : b = decide p := by
 cases b
 ·simp [h2 rfl]
 ·simp [h1 rfl]
theorem t_dec {p : Prop} [Decidable p] (h : p) : true = decide p := by simp [h]
theorem f_dec {p : Prop} [Decidable p] (h : ¬ p) : false = decide p := by simp [h]

section
variable {P : Program} {r : Option Nat} {n : Nat} {K : Post} {Q : Exit → Post} {e : Env} {ds : List Deferred} {L L' : List Res}
theorem W.loopI {c : Code} {X : Type} (Inv : X → Prop) (E : X → Env) (D : X → List Deferred) (R : X → List Res) (μ : X → Nat) (x0 : X)
    (hi : Inv x0) (hE : Le (E x0) e) (hD : D x0 = ds) (hR : Ent L (R x0))
    (round : ∀ x, Inv x → W P r n c (fun e' ds' L' => ∃ x', Inv x' ∧ Le (E x') e' ∧ D x' = ds' ∧ Ent L' (R x') ∧ μ x' < μ x) Q (E x) (D x) (R x)) :
    W P r n (.loop c) K Q e ds L :=
  W.loop (X := { x : X // Inv x }) (fun x => E x.1) (fun x => D x.1) (fun x => R x.1) (fun x => μ x.1) ⟨x0, hi⟩ ⟨hE, hD, hR⟩ fun x =>
    W.cut _ (round x.1 x.2) fun _ _ _ ⟨x', h1, h2, h3, h4, h5⟩ => ⟨⟨x', h1⟩, h2, h3, h4, h5⟩
theorem jumpQ_imp {l : Nat} {J J' : Post} (h : ∀ e ds L, J e ds L → J' e ds L) : ∀ (ex : Exit) (e : Env) (ds : List Deferred) (L : List Res), jumpQ l J Q ex e ds L → jumpQ l J' Q ex e ds L := by
 intro ex e ds L hq
 cases ex with
 | goto j =>
  simp only [jumpQ] at *
  cases hb : Nat.beq j l with
  | true => rw [hb] at hq; exact h _ _ _ hq
  | false => rw [hb] at hq; exact hq
 | _ => exact hq
theorem W.imp {c : Code} {Q' : Exit → Post} (h : W P r n c K Q e ds L) (hq : ∀ ex e ds L, Q ex e ds L → Q' ex e ds L) : W P r n c K Q' e ds L := fun κ w a ha hs =>
  wpIn_mono (h κ w a ha hs) fun ex a' w' q => by
    cases ex with
    | normal => exact q
    | panic _ => exact q
    | outgrown => exact q
    | exit j => obtain ⟨e', ds', L', h1, h2, h3⟩ := q; exact ⟨e', ds', L', h1, h2, hq _ _ _ _ h3⟩
    | goto j => obtain ⟨e', ds', L', h1, h2, h3⟩ := q; exact ⟨e', ds', L', h1, h2, hq _ _ _ _ h3⟩
    | ret => obtain ⟨e', ds', L', h1, h2, h3⟩ := q; exact ⟨e', ds', L', h1, h2, hq _ _ _ _ h3⟩
theorem W.jumpI {c rest : Code} (l : Nat) {X : Type} (Inv : X → Prop) (E : X → Env) (D : X → List Deferred) (R : X → List Res) (μ : X → Nat) (hf : findLabel c l = some rest)
    (first : W P none n c K (jumpQ l (fun e' ds' L' => ∃ x', Inv x' ∧ Le (E x') e' ∧ D x' = ds' ∧ Ent L' (R x')) Q) e ds L)
    (pass : ∀ x, Inv x → W P none n rest K (jumpQ l (fun e' ds' L' => ∃ x', Inv x' ∧ Le (E x') e' ∧ D x' = ds' ∧ Ent L' (R x') ∧ μ x' < μ x) Q) (E x) (D x) (R x)) :
    W P none n (.scope c) K Q e ds L :=
  W.scope_jumps l (X := { x : X // Inv x }) (fun x => E x.1) (fun x => D x.1) (fun x => R x.1) (fun x => μ x.1) hf
    (W.imp first (jumpQ_imp fun _ _ _ ⟨x', h1, h2, h3, h4⟩ => ⟨⟨x', h1⟩, h2, h3, h4⟩))
    (fun x => W.imp (pass x.1 x.2) (jumpQ_imp fun _ _ _ ⟨x', h1, h2, h3, h4, h5⟩ => ⟨⟨x', h1⟩, h2, h3, h4, h5⟩))
/-- all that is left behind is dropped -/
theorem Drops.of (h : Drops L L') : Ent L L' := h.ent
end
end Go.Yb
