/-
  A part of the proof of windowLine_holds: see the text that holds it. No conditions of its own.
-/
import Derived.Test.YtbfhhinhjgdgpaaGreatDoorRange
import Derived.Laws.StructEq
namespace Go.Yb
open Go Go.RowKit
section
variable {P : Program} {r : Option Nat} {n : Nat} {K : Post} {Q : Exit → Post} {e : Env} {ds : List Deferred} {L Ls : List Res}

/-- a loop: the part of frame and memory that turns is named, the rest stays -/
theorem W.loopS {c : Code} {X : Type} (Inv : X → Prop) (E : X → Env) (R : X → List Res) (μ : X → Nat) (x0 : X) (es : Env)
    (hi : Inv x0) (hE : Le (E x0 ++ es) e) (hR : Split L (R x0) Ls)
    (round : ∀ x, Inv x → W P r n c (fun e' ds' L' => ∃ x' L2, Inv x' ∧ Le (E x' ++ es) e' ∧ ds = ds' ∧ Split L' (R x') L2 ∧ Drops L2 Ls ∧ μ x' < μ x) Q (E x ++ es) ds (R x ++ Ls)) :
    W P r n (.loop c) K Q e ds L :=
  W.loopI Inv (fun x => E x ++ es) (fun _ => ds) (fun x => R x ++ Ls) μ x0 hi hE rfl hR.ent fun x hx =>
    W.cut _ (round x hx) fun _ _ _ ⟨x', L2, h1, h2, h3, h4, h5, h6⟩ => ⟨x', h1, h2, h3, h4.ent.trans (h5.app _), h6⟩
end

theorem drop_at {α : Type} {l : List α} {i : Nat} (h : i < l.length) : ∃ x, l[i]? = some x ∧ l.drop i = x :: l.drop (i + 1) :=
  ⟨l[i], List.getElem?_eq_getElem h, List.drop_eq_getElem_cons h⟩
theorem map_at {α β : Type} {f : α → β} {l : List α} {i : Nat} {x : α} (h : l[i]? = some x) : (l.map f)[i]? = some (f x) := by simp [h]
theorem take_at {α : Type} {l : List α} {i : Nat} {x : α} (h : l[i]? = some x) : l.take (i + 1) = l.take i ++ [x] := by
 rw [List.take_add_one, h]; rfl
theorem drop_end {α : Type} {l : List α} {i : Nat} (h : ¬ ((i : Int) < (l.length : Int))) : l.drop i = [] := List.drop_eq_nil_of_le (by omega)
theorem take_end {α : Type} {l : List α} {i : Nat} (h : ¬ ((i : Int) < (l.length : Int))) : l.take i = l := List.take_of_length_le (by omega)
end Go.Yb
namespace Go.Yb
open Go Go.RowKit

/-! ### Rows of encoded things -/
/-- a row of our own: the things ys, each as its cells -/
abbrev rowR {α : Type} (E sz : Nat) (f : α → List Value) (ys : List α) (a : Option Addr) (c : Nat) : Res := .arr (.slice a ys.length c) E sz ys.length (ys.map f).flatten
/-- a row that stays -/
abbrev rowI {α : Type} (sz : Nat) (f : α → List Value) (ys : List α) (a : Option Addr) (c : Nat) : Res := .imm (Sl sz a ys.length c (ys.map f))
def RetRow {α : Type} (sz : Nat) (f : α → List Value) (ys : List α) : Value → List Res → Prop := fun v L' => ∃ a c, v = .slice a ys.length c ∧ L' = [rowI sz f ys a c]

section
variable {P : Program} {r : Option Nat} {n : Nat} {K : Post} {Q : Exit → Post} {e : Env} {ds : List Deferred} {L L' Lf : List Res}
variable {d : Option Tmp} {ty : TypeId} {pos : String} {af : Array Edge} {g : Option (Nat × Bool)} {fn : Func} {R : Value → List Res → Prop}

theorem flat_push {α : Type} (f : α → List Value) (ys : List α) (y : α) : (ys.map f).flatten ++ f y = ((ys ++ [y]).map f).flatten := by simp

theorem OW.push {α : Type} {f : α → List Value} {ys : List α} {y : α} {us : List Value} {ops : Array Oper} {l : List Oper} {T E E' sz bytes : Nat} {x x' : Operand} {a : Option Addr} {c c' b : Nat} (hw : Wn ops e ⟨d, .call { callee := .builtin .append, args := #[x, x'], argTypes := #[T, T] }, ty, pos, af, g⟩ true) (hd : dstOk n d = true)
  (hT : RowT P T E sz bytes) (hx : Env.ev e x = some (.slice a ys.length c)) (hy : Env.ev e x' = some (.slice (some ⟨b, 0, none⟩) 1 c'))
  (hp : Pick (rowR E sz f ys a c) L L') (hq : ∃ L1, Pick (.cell b us E') L L1) (hu : us = f y) (hl : us.length = sz) (h1 : OneI us) (hb : (ys.length + 1) * bytes ≤ 140737488355328) (hm : ys.length + 1 ≤ 9223372036854775807)
  (kk : ∀ a' c', OW P r n ops l K Q (Env.put e d (.slice a' (ys ++ [y]).length c')) ds (rowR E sz f (ys ++ [y]) a' c' :: L')) :
  OW P r n ops (⟨d, .call { callee := .builtin .append, args := #[x, x'], argTypes := #[T, T] }, ty, pos, af, g⟩ :: l) K Q e ds L := by
 obtain ⟨L1, hq⟩ := hq
 subst hu
 refine OW.append hw hd hT hx hy hp (Src.cell hq) (by rw [Nat.one_mul]; exact hl) h1.all (by unfold maxLen; omega) hb fun a' c' => ?_
 have := kk a' c'
 rw [rowR, List.length_append, List.length_singleton, ← flat_push] at this
 exact this

theorem sl_of_cells {sz b m c : Nat} {xs : List (List Value)} {T : TypeId} {o : Obj} {I' : Imm} (hl : xs.length = m) (hx : ∀ x ∈ xs, x.length = sz) (hc : m ≤ c) (hcm : c ≤ maxLen) (ho : o = .cells xs.flatten.toArray T (0, 0)) (hI' : I' b = some o) : Sl sz (some ⟨b, 0, none⟩) m c xs I' := by
 refine ⟨hl, hc, hcm, fun i x hix => ?_⟩
 have hxl := hx x (List.mem_of_getElem? hix)
 refine ⟨hxl, _, _, _, _, rfl, rfl, by rw [hI', ho], fun j hj => ?_⟩
 rw [Nat.zero_add]
 have h5 := flat_get hx hix j hj
 simpa using h5

/-- a block of our own is a row that stays -/
theorem Ent.seal_cell {α : Type} {b sz : Nat} {us : List Value} {T : TypeId} (f : α → List Value) (ys : List α) (hu : us = (ys.map f).flatten) (hx : ∀ y, (f y).length = sz) (hm : ys.length ≤ 4096) :
  Ent (.cell b us T :: L) (rowI sz f ys (some ⟨b, 0, none⟩) ys.length :: L) := by
 subst hu
 refine Ent.shutR (r := .cell b _ T) (b := b) rfl fun I w hsat => ⟨_, hsat, fun I' hI' => ?_⟩
 exact sl_of_cells (by simp) (fun x hx' => by obtain ⟨y, _, rfl⟩ := List.mem_map.1 hx'; exact hx y) (Nat.le_refl _) (by unfold maxLen; omega) rfl hI'

theorem Ent.pick {r : Res} {r' : Res} (hp : Pick r L L') (h : ∀ L, Ent (r :: L) (r' :: L)) : Ent L (r' :: L') := hp.ent.trans (h _)

theorem rowI.nil {α : Type} (sz : Nat) (f : α → List Value) : Ent L (rowI sz f ([] : List α) none 0 :: L) := by
 rintro κ w ⟨hs, I, h1, h2, h3, h4⟩
 refine ⟨hs, I, h1, fun r hr => ?_, ?_, ?_⟩
 ·rcases List.mem_cons.1 hr with rfl | hr
  ·exact fun I' _ => ⟨rfl, Nat.le_refl _, by unfold maxLen; omega, by simp⟩
  ·exact h2 r hr
 ·simpa [fps, Res.fp] using h3
 ·simpa [fps, Res.fp] using h4

theorem not_t {b : Bool} (h : (!b) = true) : b = false := by cases b <;> simp_all
theorem not_f {b : Bool} (h : (!b) = false) : b = true := by cases b <;> simp_all
def EqT (P : Program) (T : TypeId) (us vs : List Value) (b : Bool) : Prop := P.eqGuardType P.depth T = false ∧ ∀ w, (Op.equalIn 10000 T (.agg us.toArray) (.agg vs.toArray)).run P w = .ok b w
theorem Yl.eqst {T : TypeId} {x y : Operand} {yt : TypeId} {us vs : List Value} {b : Bool} (hT : EqT P T us vs b) (hx : Env.ev e x = some (.agg us.toArray)) (hy : Env.ev e y = some (.agg vs.toArray)) : Yl P e L ⟨d, .binOp .eql T x y yt, ty, pos, af, g⟩ (.bool b) :=
 Yl.of rfl fun _ _ _ a' w ha _ => by
  have h1 := run_eqGuard_agg (P := P) w .eql T x y us.toArray vs.toArray hT.1
  have h2 : (binOp .eql T (.agg us.toArray) (.agg vs.toArray)).run P w = .ok (.bool b) w := by
   rw [run_eql_struct, hT.2]; simp only [Result.andThen_ok]
  simp only [execOp, ha.eval hx, ha.eval hy, Sem.run_bind, h1, h2, Result.andThen_ok, Sem.run_pure]
theorem Yl.neqst {T : TypeId} {x y : Operand} {yt : TypeId} {us vs : List Value} {b : Bool} (hT : EqT P T us vs b) (hx : Env.ev e x = some (.agg us.toArray)) (hy : Env.ev e y = some (.agg vs.toArray)) : Yl P e L ⟨d, .binOp .neq T x y yt, ty, pos, af, g⟩ (.bool (!b)) :=
 Yl.of rfl fun _ _ _ a' w ha _ => by
  have h1 := run_eqGuard_agg (P := P) w .neq T x y us.toArray vs.toArray hT.1
  have h2 : (binOp .neq T (.agg us.toArray) (.agg vs.toArray)).run P w = .ok (.bool (!b)) w := by
   rw [run_neq_struct, hT.2]; simp only [Result.andThen_ok]
  simp only [execOp, ha.eval hx, ha.eval hy, Sem.run_bind, h1, h2, Result.andThen_ok, Sem.run_pure]
theorem FnV.cast {f : FuncId} {args : Array Value} {v v' : Value} (h : FnV P f args L v) (e : v = v') : FnV P f args L v' := e ▸ h
/-! ### Ends -/
theorem Fin.ent {L1 : List Res} (h : Ent L L1) (k : Fin P fn R Lf e ds L1) : Fin P fn R Lf e ds L := by
 obtain ⟨D, v, L', Lx, h1, h2, h3⟩ := k
 exact ⟨D, v, L', Lx, h1, h.trans h2, h3⟩
theorem Fin.marks (D : List Nat) (hd : ds = D.map markOf) (hs : Split L (D.map fun b => Res.obj b (.deferred (some []))) L') (k : Fin P fn R Lf e [] L') : Fin P fn R Lf e ds L := by
 obtain ⟨D', v, L1, Lx, h1, h2, h3⟩ := k
 have h0 : D' = [] := by
  cases D' with
  | nil => rfl
  | cons x xs => simp [Go.Yb.marks] at h1
 subst h0
 have he : Ent L' Lx := by simpa using h2
 exact ⟨D, v, L1, L', hd, hs.ent, fun n ds κ a w ha hst => h3.1 n ds κ a w ha (he κ w hst), h3.2.1, he.trans h3.2.2⟩
end
end Go.Yb
namespace Go.Yb
theorem EntL {L A B C : List Res} (hs : Split L A C) (hd : Drops C B) : Ent L (A ++ B) := hs.ent.trans (hd.app A)
end Go.Yb
namespace Go.Yb
open Go Go.RowKit
section
variable {P : Program} {r : Option Nat} {n : Nat} {K : Post} {Q : Exit → Post} {e : Env} {ds : List Deferred} {L L' Ls : List Res}

/-- operation i comes up first -/
def AWi (P : Program) (r : Option Nat) (n : Nat) (ops : Array Oper) (K : Post) (Q : Exit → Post) (fuel : Nat) (listed : Array Bool) (G : Held) (i : Nat) : Post := fun e ds L =>
  ∀ κ w a, Has n ds e a → St κ L w → (∀ p ∈ G, St κ [p.2] w) →
    wpOpIn (Fr r) 0 P ops (lift κ n K Q) i (AnyG P r ops (lift κ n K Q) fuel ((heldP κ G).filter fun p => !aft ops i p.1) (listed.setIfInBounds i true)) a w
theorem AW.two {ops : Array Oper} {fuel : Nat} {listed : Array Bool} {G : Held} (i j : Nat) (hr : Region.ready .any ops listed = [i, j]) (h1 : AWi P r n ops K Q fuel listed G i e ds L) (h2 : AWi P r n ops K Q fuel listed G j e ds L) :
    AW P r n ops K Q (fuel + 1) listed G e ds L := fun κ w a ha hs hGs => by
  refine ⟨heldP_all hGs, fun h0 => ?_, fun k hk => ?_⟩
  · rw [hr] at h0; cases h0
  rw [hr] at hk
  simp only [List.mem_cons, List.not_mem_nil, or_false] at hk
  rcases hk with rfl | rfl
  · exact h1 κ w a ha hs hGs
  · exact h2 κ w a ha hs hGs
theorem AW.three {ops : Array Oper} {fuel : Nat} {listed : Array Bool} {G : Held} (i j l : Nat) (hr : Region.ready .any ops listed = [i, j, l]) (h1 : AWi P r n ops K Q fuel listed G i e ds L) (h2 : AWi P r n ops K Q fuel listed G j e ds L) (h3 : AWi P r n ops K Q fuel listed G l e ds L) :
    AW P r n ops K Q (fuel + 1) listed G e ds L := fun κ w a ha hs hGs => by
  refine ⟨heldP_all hGs, fun h0 => ?_, fun k hk => ?_⟩
  · rw [hr] at h0; cases h0
  rw [hr] at hk
  simp only [List.mem_cons, List.not_mem_nil, or_false] at hk
  rcases hk with rfl | rfl | rfl
  · exact h1 κ w a ha hs hGs
  · exact h2 κ w a ha hs hGs
  · exact h3 κ w a ha hs hGs
theorem AWi.step {ops : Array Oper} {fuel : Nat} {listed : Array Bool} {G G' : Held} {i : Nat} {d : Option Tmp} {op : Op} {ty : TypeId} {pos : String} {af : Array Edge} {g : Option (Nat × Bool)} {T : Value → List Res → Prop} (hi : ops[i]? = some ⟨d, op, ty, pos, af, g⟩)
  (hw : Wn ops e ⟨d, op, ty, pos, af, g⟩ true) (hd : dstOk n d = true) (h : Ex P r e L ⟨d, op, ty, pos, af, g⟩ T) (hGf : Flt ops i G G')
  (k : ∀ v L', T v L' → Hold G' L' ∧ AW P r n ops K Q fuel (listed.setIfInBounds i true) G' (Env.put e d v) ds L') : AWi P r n ops K Q fuel listed G i e ds L := fun κ w a ha hs hGs => by
 have hG := hGf.eq
 unfold wpOpIn
 simp only [hi]
 rw [if_pos (hw n ds a ha)]
 have hmap : (heldP κ G).filter (fun p => !aft ops i p.1) = heldP κ G' := by
  rw [← hG]; simp [heldP, List.filter_map, Function.comp_def]
 rw [hmap]
 exact h n ds κ a w _ _ ha hs fun v L' w' ht hs' => (k v L' ht).2 κ w' _ (ha.put hd v) hs' ((k v L' ht).1.all hs')

/-- a piece, of which what lies behind it is said -/
theorem W.seqS {x y : Code} {X : Type} {R0 : List Res} (Inv : X → Prop) (E : X → Env) (R : X → List Res) (es : Env) (hes : Le es e) (hR : Split L R0 Ls)
    (h : W P r n x (fun e' ds' L' => ∃ x L2, Inv x ∧ Le (E x ++ es) e' ∧ ds = ds' ∧ Split L' (R x) L2 ∧ Drops L2 Ls) Q e ds (R0 ++ Ls))
    (k : ∀ x, Inv x → W P r n y K Q (E x ++ es) ds (R x ++ Ls)) : W P r n (.seq x y) K Q e ds L :=
  W.seq (W.cut _ (W.ent hR.ent h) fun _ _ _ ⟨x, _, h1, h2, h3, h4, h5⟩ => h3 ▸ W.of_le h2 (h4.ent.trans (h5.app _)) (k x h1))
end
end Go.Yb
namespace Go.Yb
open Go Go.RowKit
section
variable {P : Program} {r : Option Nat} {n : Nat} {K : Post} {Q : Exit → Post} {e : Env} {ds : List Deferred} {L L' Ls : List Res}
variable {d : Option Tmp} {ty : TypeId} {pos : String} {af : Array Edge} {g : Option (Nat × Bool)}
/-- a loop at its head -/
def WL (P : Program) (r : Option Nat) (n : Nat) (c : Code) (K : Post) (Q : Exit → Post) : Post := fun e ds L =>
  ∀ κ w a, Has n ds e a → St κ L w → ∀ (b : Frame) (k : List Item) (cs : List Frame), b.roundOf = (Fr r).round → (Fr r).fn b.fn → (Fr r).room (cs.length + 1 + 0) →
    ∃ ex a' w', lift κ n K Q ex a' w' ∧ ArrivesIn (Machine.fenced P (Fr r)) P (lone (b.atR a (.code c :: .inLoop c :: k)) cs w) b k cs ex a' w'
theorem WL.round {c : Code} (h : W P r n c (WL P r n c K Q) Q e ds L) : WL P r n c K Q e ds L := fun κ w a ha hs b k cs hro hb hr => by
  obtain ⟨ex, a₁, w₁, hq, harr⟩ := h κ w a ha hs b (.inLoop c :: k) cs hro hb hr
  cases ex with
  | normal =>
    obtain ⟨e', ds', L', h1, h2, h3⟩ := hq
    obtain ⟨e₂, a₂, w₂, hq₂, harr₂⟩ := h3 κ w₁ a₁ h1 h2 b k cs hro hb hr
    exact ⟨e₂, a₂, w₂, hq₂, .of_steps (StepsIn.trans harr (.one (fenced_calm hb hr rfl) stepR_inLoop)) harr₂⟩
  | exit id => exact ⟨.exit id, a₁, w₁, hq, .pass (x := .inLoop c) rfl (fun _ _ => .inl (by simp)) harr⟩
  | goto l => exact ⟨.goto l, a₁, w₁, hq, .pass (x := .inLoop c) rfl (fun _ _ => .inl (by simp)) harr⟩
  | ret => exact ⟨.ret, a₁, w₁, hq, .pass (x := .inLoop c) rfl (fun _ _ => .inl (by simp)) harr⟩
  | panic ch => exact hq.elim
  | outgrown => exact hq.elim
theorem W.loopL {c : Code} (h : WL P r n c K Q e ds L) : W P r n (.loop c) K Q e ds L := fun κ w a ha hs => by
  intro b k cs hro hb hr
  obtain ⟨ex, a', w', hq, harr⟩ := h κ w a ha hs b k cs hro hb hr
  exact ⟨ex, a', w', hq, .of_steps (.one (fenced_calm hb hr rfl) stepR_loop) harr⟩

/-- an element of an array's value -/
theorem Yl.index1 {T len E : Nat} {x y : Operand} {cs : List Value} {k : IntKind} {j : Int} {v : Value} (i : Nat) (hT : ArrayT P T len E 1) (hE : ∀ w, (isAgg E).run P w = .ok false w) (hx : Env.ev e x = some (.agg cs.toArray)) (hy : Env.ev e y = some (.int k j))
    (hj : j = (i : Int)) (hlt : i < len) (hv : AtI cs i v) : Yl P e L ⟨d, .index T x y, ty, pos, af, g⟩ v :=
  Yl.of rfl fun _ _ _ _ w ha _ => by
    have h2 := hT.2 w
    have h1 : (0 : Int) ≤ (i : Int) ∧ (i : Int) < (len : Int) := by omega
    have h3 := hv.get
    simp only [execOp, ha.eval hx, ha.eval hy, Instr.index, asIntOf, Sem.run_bind, Sem.run_pure, Result.andThen_ok, run_underlying hT.1, hj, h1, h2, and_self, if_true, Int.toNat_natCast]
    simp [part, hE, h3]
theorem Yl.indexG {T len E sz : Nat} {x y : Operand} {cs us : List Value} {k : IntKind} {j : Int} (i o : Nat) (hT : ArrayT P T len E sz) (hE : AggT P E sz) (hx : Env.ev e x = some (.agg cs.toArray)) (hy : Env.ev e y = some (.int k j))
  (hj : j = (i : Int)) (hlt : i < len) (ho : i * sz = o) (hv : SubI cs o sz us) (hcs : o + sz ≤ cs.length) : Yl P e L ⟨d, .index T x y, ty, pos, af, g⟩ (.agg us.toArray) :=
 Yl.of rfl fun _ _ _ _ w ha _ => by
  have h2 := hT.2 w
  have h1 : (0 : Int) ≤ (i : Int) ∧ (i : Int) < (len : Int) := by omega
  obtain ⟨h3, h4⟩ := hv.spec
  have h5 : cs.toArray.extract o (o + sz) = us.toArray := by
   rw [List.extract_toArray]
   congr 1
   apply List.ext_getElem?
   intro m
   by_cases hm : m < sz
   ·rw [List.extract_eq_take_drop, List.getElem?_take_of_lt (by omega), List.getElem?_drop, h4 m hm]
   ·rw [List.getElem?_eq_none (by simp; omega), List.getElem?_eq_none (by omega)]
  simp only [execOp, ha.eval hx, ha.eval hy, Instr.index, asIntOf, Sem.run_bind, Sem.run_pure, Result.andThen_ok, run_underlying hT.1, hj, h1, h2, and_self, if_true, Int.toNat_natCast, ho]
  have h6 : (cs.drop o).take sz = us := by
   have := h5
   simp only [List.extract_toArray, List.extract_eq_take_drop, Nat.add_sub_cancel_left] at this
   simpa using this
  simp [part, hE.1, hE.2, h6]
end
end Go.Yb
namespace Go.Yb
open Go Go.RowKit
def ArrB (P : Program) (T : TypeId) (zs : List Value) (ps : List (Nat × Nat)) : Prop :=
  (∀ w, (zeroValue T).run P w = .ok (.agg zs.toArray) w) ∧ ∃ len E sz, ArrayT P T len E sz ∧ ps = (List.range len).map fun i => (i * sz, sz)
theorem Yl.buildA {P : Program} {e : Env} {L : List Res} {d : Option Tmp} {ty : TypeId} {pos : String} {af : Array Edge} {g : Option (Nat × Bool)} {T : TypeId} {parts : Array (Nat × Operand)} {zs out : List Value} {ps : List (Nat × Nat)} {is : List Nat} {xs : List Operand} {vs : List Value} (hT : ArrB P T zs ps) (hpa : parts = (is.zip xs).toArray) (hx : Env.evs e xs = some vs)
  (hf : FillI ps zs (is.zip vs) out) : Yl P e L ⟨d, .build T parts, ty, pos, af, g⟩ (.agg out.toArray) :=
 Yl.of rfl fun _ _ _ a w ha _ => by
  obtain ⟨hz, len, E, sz, hu, rfl⟩ := hT
  have hv : (parts.map fun (i, x) => (i, a.eval x)).toList = is.zip vs := by
   rw [hpa, ← ha.evals hx]
   simp [List.zip_map_right]
  have hfill := hf.run (fun i => some (i * sz, sz)) (fun i x h => by
   rw [List.getElem?_map] at h
   cases hr : (List.range len)[i]? with
   | none => simp [hr] at h
   | some j =>
    have : j = i := by
     obtain ⟨h1, h2⟩ := List.getElem?_eq_some_iff.1 hr
     simpa using h2.symm
    subst this
    simpa [hr] using h)
  have h2 := hu.2 w
  simp only [execOp, Instr.build, Sem.run_bind, hz w, Result.andThen_ok, run_underlying hu.1, h2, Value.cells, hv, hfill, Sem.run_pure]
end Go.Yb
namespace Go.Yb
open Go Go.RowKit
section
variable {P : Program} {r : Option Nat} {n : Nat} {K : Post} {Q : Exit → Post} {e : Env} {ds : List Deferred} {L L' Ls Lf : List Res} {fn : Func}
variable {d : Option Tmp} {ty : TypeId} {pos : String} {af : Array Edge} {g : Option (Nat × Bool)}
/-- resources that stay, all among some others -/
inductive HasI (A : List Res) : List Res → Prop
  | nil : HasI A []
  | cons {p : Imm → Prop} {Lx : List Res} : Res.imm p ∈ A → HasI A Lx → HasI A (.imm p :: Lx)
theorem HasI.split {A Lx B C : List Res} (h : HasI A Lx) (hA : IsApp B C A L) : Split L (Lx ++ B) (A ++ C) := by
 induction h with
 | nil => exact .app hA
 | cons hm _ ih => exact .keep (by rw [hA.eq]; exact List.mem_append_left _ hm) ih
theorem OW.yield {ops : Array Oper} {l : List Oper} {fo : Operand} {args : Array Operand} {ats : Array TypeId} {yv : Value} {vs : List Value} {A C Lx : List Res} {S Sx : Type} {I : Nat → S → Prop} {R : S → List Res} {Ix : Sx → Prop} {Rx : Sx → List Res} {k : Nat} {s : S}
    (hw : Wn ops e ⟨d, .call { callee := .value fo, args := args, argTypes := ats }, ty, pos, af, g⟩ true) (hd : dstOk n d = true) (hf : Env.ev e fo = some yv) (ha : Env.evs e args.toList = some vs)
    (hA : IsApp (R s) C A L) (hx : HasI A Lx)
    (h : Tri P yv vs.toArray (Lx ++ R s) (fun v L' => (v = .bool true ∧ ∃ s', I (k + 1) s' ∧ L' = R s') ∨ (v = .bool false ∧ ∃ s', Ix s' ∧ L' = Rx s')))
    (kt : ∀ s', I (k + 1) s' → OW P r n ops l K Q (Env.put e d (.bool true)) ds (A ++ (R s' ++ C)))
    (kf : ∀ s', Ix s' → OW P r n ops l K Q (Env.put e d (.bool false)) ds (A ++ (Rx s' ++ C))) :
    OW P r n ops (⟨d, .call { callee := .value fo, args := args, argTypes := ats }, ty, pos, af, g⟩ :: l) K Q e ds L :=
  have sw : ∀ B : List Res, Ent (B ++ (A ++ C)) (A ++ (B ++ C)) := fun B => Ent.perm (by
    rw [← List.append_assoc, ← List.append_assoc]; exact List.perm_append_comm.append_right C)
  OW.call hw hd hf ha h (hx.split hA) fun v L' hv => by
    rcases hv with ⟨rfl, s', hI, rfl⟩ | ⟨rfl, s', hI, rfl⟩
    · exact OW.ent (sw _) (kt s' hI)
    · exact OW.ent (sw _) (kf s' hI)
theorem Fin.it {R : Value → List Res → Prop} {A B C : List Res} {v : Value} (hr : Rsl P fn e L v) (hA : IsApp B C A L) (hR : R v B) (hd : Drops (A ++ C) Lf) : Fin P fn R Lf e [] L :=
  Fin.mk hr hR (.app hA) hd
end
end Go.Yb
namespace Go.Yb
open Go Go.RowKit
theorem Ent.sealP {α : Type} {f : α → List Value} {ys : List α} {E sz : Nat} {a : Option Addr} {c : Nat} {L L' : List Res} (hp : Pick (rowR E sz f ys a c) L L') (hf : ∀ y, (f y).length = sz) : Ent L (rowI sz f ys a c :: L') :=
  Ent.pick hp fun _ => Ent.seal_row (by simp) (fun x hx => by obtain ⟨y, _, rfl⟩ := List.mem_map.1 hx; exact hf y)
end Go.Yb
namespace Go.Yb
open Go Go.RowKit
theorem AW.ent {P : Program} {r : Option Nat} {n : Nat} {K : Post} {Q : Exit → Post} {e : Env} {ds : List Deferred} {L L' : List Res} {ops : Array Oper} {fuel : Nat} {listed : Array Bool} {G : Held} (h : Ent L L') (k : AW P r n ops K Q fuel listed G e ds L') : AW P r n ops K Q fuel listed G e ds L :=
  fun κ w a ha hs hG => k κ w a ha (h κ w hs) hG
end Go.Yb
namespace Go.Yb
open Go Go.RowKit
section
variable {P : Program} {r : Option Nat} {n : Nat} {K : Post} {Q : Exit → Post} {e : Env} {ds : List Deferred} {L L' : List Res}
variable {d : Option Tmp} {ty : TypeId} {pos : String} {af : Array Edge} {g : Option (Nat × Bool)}
theorem imm_eq {p q : Imm → Prop} (h : ∀ I, p I → q I) : Ent (.imm p :: L) (.imm q :: L) := fun κ w hs => Ent.imm (L := .imm p :: L) List.mem_cons_self h κ w hs |> fun h2 => (Ent.perm (List.Perm.swap _ _ _)).trans (Ent.drop _ _) κ w h2
/-- the part from l to h of a row that stays -/
theorem OW.cutM {α : Type} {f : α → List Value} {ys : List α} {ops : Array Oper} {ll : List Oper} {T E sz c l h q : Nat} {x : Operand} {lo hi mx : Option Operand} {a : Option Addr} (zs : List α) (hw : Wn ops e ⟨d, .slice T x lo hi mx, ty, pos, af, g⟩ true) (hd : dstOk n d = true) (hT : SliceT P T E sz) (hx : Env.ev e x = some (.slice a ys.length c)) (hl : LoI e lo l) (hh : HiI e ys.length hi h) (hq : HiI e c mx q) (hm : (mx.isSome && hi.isNone) = false)
  (hp : Pick (rowI sz f ys a c) L L') (hz : zs = (ys.drop l).take (h - l)) (h1 : l ≤ h) (h0 : h ≤ ys.length) (h2 : ys.length ≤ c → h ≤ q) (h3 : ys.length ≤ c → q ≤ c)
  (kk : ∀ a' c', OW P r n ops ll K Q (Env.put e d (.slice a' zs.length c')) ds (rowI sz f zs a' c' :: L)) :
  OW P r n ops (⟨d, .slice T x lo hi mx, ty, pos, af, g⟩ :: ll) K Q e ds L := by
 refine OW.fact (Sl.bound hp) fun hb => ?_
 refine OW.cut hw hd hT hx hl hh hq hm h1 h0 (h2 hb.1) (h3 hb.1) hp fun a' => ?_
 have hlen : zs.length = h - l := by rw [hz]; simp; omega
 have hmap : ((ys.map f).drop l).take (h - l) = zs.map f := by rw [hz]; simp [List.map_take, List.map_drop]
 have := kk a' (q - l)
 rw [hlen] at this
 refine OW.ent (imm_eq fun I hI => ?_) this
 show Sl sz a' zs.length (q - l) (zs.map f) I
 rw [hlen, ← hmap]; exact hI
end
end Go.Yb
namespace Go.Yb
open Go Go.RowKit
/-- a row that stays, and no error -/
def RetRowE {α : Type} (sz : Nat) (f : α → List Value) (ys : List α) : Value → List Res → Prop := fun v L' => ∃ a c, v = .tuple #[.slice a ys.length c, .int .i64 0] ∧ L' = [rowI sz f ys a c]
end Go.Yb
namespace Go.Yb
open Go Go.RowKit
section
variable {P : Program} {r : Option Nat} {n : Nat} {K : Post} {Q : Exit → Post} {e : Env} {ds : List Deferred} {L L' : List Res}
variable {d : Option Tmp} {ty : TypeId} {pos : String} {af : Array Edge} {g : Option (Nat × Bool)}
theorem arrR_some {α : Type} {f : α → List Value} {ys : List α} {E sz : Nat} {a : Option Addr} {c : Nat} (hp : Pick (rowR E sz f ys a c) L L') (hm : 0 < ys.length) : ∀ κ w, St κ L w → ∃ p, a = some p := fun κ w hs => by
  obtain ⟨p, c', h⟩ := arr_some hp hm κ w hs
  cases h; exact ⟨p, rfl⟩
theorem Yl.loadR {α : Type} {f : α → List Value} {ys : List α} {y : α} {T E sz i : Nat} {x : Operand} {p : Addr} {c : Nat} (hT : AggT P T sz) (hx : Env.ev e x = some (.pointer (some (p.add (i * sz)))))
    (hp : Pick (rowR E sz f ys (some p) c) L L') (hy : ys[i]? = some y) (hf : ∀ y, (f y).length = sz) : Yl P e L ⟨d, .load T x, ty, pos, af, g⟩ (.agg (f y).toArray) :=
  Yl.loadO hT hx hp (hf y) (fun j hj => flat_get (fun x hx => by obtain ⟨z, _, rfl⟩ := List.mem_map.1 hx; exact hf z) (map_at hy) j hj)
/-- a block that stays, from its start -/
def GlobI (b : Nat) (vs : List Value) : Imm → Prop := fun I => ∃ E fr, I b = some (.cells vs.toArray E fr)
theorem Yl.loadG {T b k : Nat} {vs us : List Value} (hT : AggT P T k) (hp : Pick (.imm (GlobI b vs)) L L') (hv : SubI vs 0 k us) : Yl P e L ⟨d, .load T (.global b), ty, pos, af, g⟩ (.agg us.toArray) :=
  Yl.of rfl fun _ _ _ ac w ha hs => by
    obtain ⟨hl, hv⟩ := hv.spec
    obtain ⟨I, hI, E, fr, hb⟩ := hs.imm_at hp
    have hx : Env.ev e (.global b) = some (.pointer (some ⟨b, 0, none⟩)) := rfl
    have hc : ∀ j v, us[j]? = some v → w.cell? ((⟨b, 0, none⟩ : Addr).add j) = some v := fun j v hj => by
      have h1 := cell_of_imm (p := ⟨b, 0, none⟩) hI hb rfl j
      rw [h1]
      have hlt : j < k := by rw [← hl]; exact (List.getElem?_eq_some_iff.1 hj).1
      have h2 := hv j hlt
      simp only [Nat.zero_add] at h2 ⊢
      simpa [hj] using h2
    have hr := run_loadCells_list (P := P) (w := w) ⟨b, 0, none⟩ us hc
    rw [hl] at hr
    simp [execOp, ha.eval hx, Instr.loadAt, Instr.sureAddr, loadVar, hT.1 w, hT.2 w, hr]
end
end Go.Yb
namespace Go.Yb
open Go Go.RowKit
section
variable {P : Program} {r : Option Nat} {n : Nat} {K : Post} {Q : Exit → Post} {e : Env} {ds : List Deferred} {L L' : List Res}
variable {d : Option Tmp} {ty : TypeId} {pos : String} {af : Array Edge} {g : Option (Nat × Bool)}
theorem Ex.mono {o : Oper} {T T' : Value → List Res → Prop} (h : Ex P r e L o T) (ht : ∀ v L', T v L' → ∃ L'', Ent L' L'' ∧ T' v L'') : Ex P r e L o T' := fun n ds κ a w next Q ha hs hn =>
  h n ds κ a w next Q ha hs fun v L' w' hT hs' => by
    obtain ⟨L'', hE, hT'⟩ := ht v L' hT
    exact hn v L'' w' hT' (hE κ w' hs')
theorem Ex.push {α : Type} {f : α → List Value} {ys : List α} {y : α} {us : List Value} {T E E' sz bytes : Nat} {x x' : Operand} {a : Option Addr} {c c' b : Nat}
  (hT : RowT P T E sz bytes) (hx : Env.ev e x = some (.slice a ys.length c)) (hy : Env.ev e x' = some (.slice (some ⟨b, 0, none⟩) 1 c'))
  (hp : Pick (rowR E sz f ys a c) L L') (hq : ∃ L1, Pick (.cell b us E') L L1) (hu : us = f y) (hl : us.length = sz) (h1 : OneI us) (hb : (ys.length + 1) * bytes ≤ 140737488355328) (hm : ys.length + 1 ≤ 9223372036854775807) :
  Ex P r e L ⟨d, .call { callee := .builtin .append, args := #[x, x'], argTypes := #[T, T] }, ty, pos, af, g⟩ (fun v' L1 => ∃ a' c', v' = .slice a' (ys ++ [y]).length c' ∧ L1 = rowR E sz f (ys ++ [y]) a' c' :: L') := by
 obtain ⟨L1, hq⟩ := hq
 subst hu
 refine Ex.mono (Ex.append hT hx hy hp (Src.cell hq) (by rw [Nat.one_mul]; exact hl) h1.all (by unfold maxLen; omega) hb) fun v' L1 ⟨⟨a', c', h2⟩, h3⟩ => ?_
 subst h2; subst h3
 refine ⟨_, Ent.refl _, a', c', by rw [List.length_append]; rfl, ?_⟩
 rw [rowR, List.length_append, List.length_singleton, ← flat_push]
end
end Go.Yb
namespace Go.Yb
open Go Go.RowKit
/-- a part of an element of a row of our own -/
theorem Yl.loadR1 {P : Program} {e : Env} {L L' : List Res} {d : Option Tmp} {ty : TypeId} {pos : String} {af : Array Edge} {g : Option (Nat × Bool)} {α : Type} {f : α → List Value} {ys : List α} {y : α} {T E sz i k : Nat} {x : Operand} {p : Addr} {c : Nat} {v : Value} (hT : ScalarT P T) (hx : Env.ev e x = some (.pointer (some ((p.add (i * sz)).add k))))
  (hp : Pick (rowR E sz f ys (some p) c) L L') (hy : ys[i]? = some y) (hf : ∀ y, (f y).length = sz) (hv : AtI (f y) k v) : Yl P e L ⟨d, .load T x, ty, pos, af, g⟩ v :=
 Yl.of rfl fun _ _ _ a w ha hs => by
  have hown := Pick.arr_own hs hp
  have hk : k < sz := by rw [← hf y]; exact (List.getElem?_eq_some_iff.1 hv.get).1
  have hc : w.cell? ((p.add (i * sz)).add k) = some v := by
   rw [addr_add_add]
   rcases hown.2 with ⟨h0, _⟩ | ⟨g', cap, cur, h0, _⟩
   ·cases h0
   ·cases h0
    refine hown.cells rfl _ _ ?_
    rw [flat_get (fun x hx => by obtain ⟨z, _, rfl⟩ := List.mem_map.1 hx; exact hf z) (map_at hy) k hk, hv.get]
  simp [execOp, ha.eval hx, Instr.loadAt, Instr.sureAddr, loadVar, hT w, hc]
end Go.Yb
