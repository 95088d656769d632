/-
  A part of the proof of windowLine_holds: see the text that holds it. No conditions of its own.
-/
import Derived.Test.YtbfhhinhjgdgpaaGreatDoorOps
import Derived.ScopeJumps
import Derived.KernelRfl
namespace Go.Yb
open Go Go.RowKit

section
variable {P : Program} {r : Option Nat} {n : Nat} {K : Post} {Q : Exit → Post} {e : Env} {ds : List Deferred} {L L' : List Res}

/-! ### Scopes -/
def noGotoQ (Q : Exit → Post) : Exit → Post
  | .goto _ => fun _ _ _ => False
  | ex => Q ex

theorem W.scope {c : Code} (h : W P none n c K (noGotoQ Q) e ds L) : W P none n (.scope c) K Q e ds L := fun κ w a ha hs =>
  wpIn_wide.2 (wp_scope_straight (Go.wp_mono (wpIn_wide.1 (h κ w a ha hs)) fun ex a' w' q => by
    cases ex with
    | goto l => obtain ⟨_, _, _, _, _, h3⟩ := q; exact h3
    | _ => exact q))

/-- jumps back to one label -/
def jumpQ (l : Nat) (J : Post) (Q : Exit → Post) : Exit → Post
  | .goto j => cond (Nat.beq j l) J (fun _ _ _ => False)
  | ex => Q ex

theorem W.scope_jumps {c rest : Code} (l : Nat) {X : Type} (E : X → Env) (D : X → List Deferred) (R : X → List Res) (μ : X → Nat) (hf : findLabel c l = some rest)
  (first : W P none n c K (jumpQ l (fun e' ds' L' => ∃ x', Le (E x') e' ∧ D x' = ds' ∧ Ent L' (R x')) Q) e ds L)
  (pass : ∀ x, W P none n rest K (jumpQ l (fun e' ds' L' => ∃ x', Le (E x') e' ∧ D x' = ds' ∧ Ent L' (R x') ∧ μ x' < μ x) Q) (E x) (D x) (R x)) :
  W P none n (.scope c) K Q e ds L := fun κ w a ha hs => by
 refine wpIn_wide.2 ?_
 intro b k cs
 have hg : gotoIn l (.inScope c :: k) = some (.code rest :: .inScope c :: k) := by simp [gotoIn, hf]
 have key : ∀ m x a w, μ x = m → Has n (D x) (E x) a → St κ (R x) w → ∃ ex a' w', lift κ n K Q ex a' w' ∧ Arrives P (lone (b.at a (.code rest :: .inScope c :: k)) cs w) b k cs ex a' w' := by
  intro m
  induction m using Nat.strongRecOn with
  | _ m ih =>
   intro x a w hn hI hS
   obtain ⟨ex, a₁, w₁, hq, harr⟩ := (wpIn_wide.1 (pass x κ w a hI hS)) b (.inScope c :: k) cs
   cases ex with
   | normal => exact ⟨.normal, a₁, w₁, hq, Steps.trans harr (.one step_inScope)⟩
   | exit id => exact ⟨.exit id, a₁, w₁, hq, fun k' hk => harr k' (by simp [exitTo, hk])⟩
   | goto l' =>
    obtain ⟨e', ds', L', h1, h2, h3⟩ := hq
    simp only [jumpQ] at h3
    cases hb : Nat.beq l' l with
    | false => rw [hb] at h3; exact h3.elim
    | true =>
     have : l' = l := Nat.eq_of_beq_eq_true hb
     subst this
     rw [hb] at h3
     obtain ⟨x', h3, h4, h5, h6⟩ := h3
     obtain ⟨e₂, a₂, w₂, hq₂, harr₂⟩ := ih (μ x') (hn ▸ h6) x' a₁ w₁ rfl (h4 ▸ h1.le h3) (h5 κ w₁ h2)
     exact ⟨e₂, a₂, w₂, hq₂, .of_steps (harr _ hg) harr₂⟩
   | ret => exact ⟨.ret, a₁, w₁, hq, harr⟩
   | panic ch => exact hq.elim
   | outgrown => exact hq.elim
 obtain ⟨ex, a₁, w₁, hq, harr⟩ := (wpIn_wide.1 (first κ w a ha hs)) b (.inScope c :: k) cs
 cases ex with
 | normal => exact ⟨.normal, a₁, w₁, hq, .head step_scope (Steps.trans harr (.one step_inScope))⟩
 | exit id => exact ⟨.exit id, a₁, w₁, hq, fun k' hk => .head step_scope (harr k' (by simp [exitTo, hk]))⟩
 | goto l' =>
  obtain ⟨e', ds', L', h1, h2, h3⟩ := hq
  simp only [jumpQ] at h3
  cases hb : Nat.beq l' l with
  | false => rw [hb] at h3; exact h3.elim
  | true =>
   have : l' = l := Nat.eq_of_beq_eq_true hb
   subst this
   rw [hb] at h3
   obtain ⟨x', h3, h4, h5⟩ := h3
   obtain ⟨e₂, a₂, w₂, hq₂, harr₂⟩ := key _ x' a₁ w₁ rfl (h4 ▸ h1.le h3) (h5 κ w₁ h2)
   exact ⟨e₂, a₂, w₂, hq₂, .of_steps (.head step_scope (harr _ hg)) harr₂⟩
 | ret => exact ⟨.ret, a₁, w₁, hq, .of_steps (.one step_scope) harr⟩
 | panic ch => exact hq.elim
 | outgrown => exact hq.elim

/-! ### Regions that draw their order -/

def quietOps (ops : Array Oper) : Bool := ops.all fun o => match o.op with | .select .. => false | .defer .. => false | _ => true
theorem quiet_sel {ops : Array Oper} (h : quietOps ops = true) {j : Nat} {o : Oper} (ho : ops[j]? = some o) : (∀ cs b, o.op ≠ .select cs b) ∧ ∀ c, o.op ≠ .defer c := by
 have := Array.all_eq_true_iff_forall_mem.1 h o (Array.mem_of_getElem? ho)
 constructor
 ·intro cs b e; simp [e] at this
 ·intro c e; simp [e] at this

/-- is operation j laid behind i? -/
def aft (ops : Array Oper) (j i : Nat) : Bool := match ops[j]? with
  | some o => o.after.any fun e => Region.binds .any e && e.on == i
  | none => false

abbrev Held := List (Nat × Res)
abbrev HeldP := List (Nat × (World → Prop))
def heldP (κ : Strm) (G : Held) : HeldP := G.map fun p => (p.1, fun w => St κ [p.2] w)

/-- whatever order is drawn; what is held stays, till an operation that is laid behind it -/
def AnyG (P : Program) (r : Option Nat) (ops : Array Oper) (Qf : Exit → Act → World → Prop) : Nat → HeldP → Array Bool → Act → World → Prop
  | 0, G, listed, a, w => (∀ p ∈ G, p.2 w) ∧ Region.ready .any ops listed = [] ∧ Qf .normal a w
  | fuel + 1, G, listed, a, w => (∀ p ∈ G, p.2 w) ∧ (Region.ready .any ops listed = [] → Qf .normal a w) ∧
    ∀ i ∈ Region.ready .any ops listed, wpOpIn (Fr r) 0 P ops Qf i (AnyG P r ops Qf fuel (G.filter fun p => !aft ops i p.1) (listed.setIfInBounds i true)) a w

theorem AnyG.sound {ops : Array Oper} {Qf : Exit → Act → World → Prop} : ∀ {fuel : Nat} {G : HeldP} {listed : Array Bool} {a : Act} {w : World}, AnyG P r ops Qf fuel G listed a w → wpAnyIn (Fr r) 0 P .any ops Qf fuel listed a w
  | 0, _, _, _, _, h => h.2
  | _ + 1, _, _, _, _, h => ⟨h.2.1, fun i hi => wpOpIn_mono (fun _ _ h' => AnyG.sound h') (h.2.2 i hi)⟩

theorem AnyG.more {ops : Array Oper} {Qf : Exit → Act → World → Prop} : ∀ {fuel : Nat} {G G' : HeldP} {listed : Array Bool} {a : Act} {w : World}, (∀ p ∈ G', p ∈ G ∨ ∀ w, p.2 w) → AnyG P r ops Qf fuel G listed a w → AnyG P r ops Qf fuel G' listed a w
  | 0, _, _, _, _, _, hs, h => ⟨fun p hp => (hs p hp).elim (h.1 p) (fun h => h _), h.2⟩
  | _ + 1, _, _, _, _, _, hs, h => ⟨fun p hp => (hs p hp).elim (h.1 p) (fun h => h _), h.2.1, fun i hi => wpOpIn_mono (fun _ _ h' => AnyG.more (fun p hp => by
      obtain ⟨h1, h2⟩ := List.mem_filter.1 hp
      exact (hs p h1).imp (fun h => List.mem_filter.2 ⟨h, h2⟩) id) h') (h.2.2 i hi)⟩
theorem AnyG.less {ops : Array Oper} {Qf : Exit → Act → World → Prop} {fuel : Nat} {G G' : HeldP} {listed : Array Bool} {a : Act} {w : World} (hs : ∀ p ∈ G', p ∈ G) (h : AnyG P r ops Qf fuel G listed a w) : AnyG P r ops Qf fuel G' listed a w :=
  AnyG.more (fun p hp => .inl (hs p hp)) h

theorem AnyG.holds {ops : Array Oper} {Qf : Exit → Act → World → Prop} {fuel : Nat} {G : HeldP} {listed : Array Bool} {a : Act} {w : World} (h : AnyG P r ops Qf fuel G listed a w) : ∀ p ∈ G, p.2 w := by
 cases fuel <;> exact h.1

/-- at whatever world in which the resource lies, the operation yields v -/
def YH (P : Program) (ops : Array Oper) (H : World → Prop) (o : Oper) (v : Value) (a : Act) : Prop :=
  (Region.wanted o (yielded ops a.tmps) = true ∧ ∀ w, H w → (execOp a.eval o).run P w = .ok (.value v) w) ∨
  (Region.wanted o (yielded ops a.tmps) = false ∧ v = undef)

theorem YH.of_same {ops : Array Oper} {H : World → Prop} {o : Oper} {v : Value} {a a' : Act} (hy : YH P ops H o v a) (he : execOp a'.eval o = execOp a.eval o)
  (hw : Region.wanted o (yielded ops a'.tmps) = Region.wanted o (yielded ops a.tmps)) : YH P ops H o v a' := by
 unfold YH at *
 rw [he, hw]
 exact hy

theorem YH.op {ops : Array Oper} {H : World → Prop} {Qf : Exit → Act → World → Prop} {i : Nat} {o : Oper} {v : Value} {a : Act} (hd : ∀ c, o.op ≠ .defer c) (hi : ops[i]? = some o) (hy : YH P ops H o v a)
  {Kf : Act → World → Prop} {w : World} (hs : H w) (h : Kf (a.put o.dst v) w) : wpOpIn (Fr r) 0 P ops Qf i Kf a w := by
 unfold Go.wpOpIn
 simp only [hi]
 rcases hy with ⟨hw, hv⟩ | ⟨hw, rfl⟩
 ·rw [if_pos hw]
  refine ⟨fun _ _ => trivial, ?_⟩
  rw [Oper.semAt_eq _ _ _ hd, hv w hs]; exact h
 ·rw [if_neg (by rw [hw]; simp)]; exact ⟨fun _ _ => trivial, h⟩

theorem wpOpIn_swap {ops : Array Oper} {H : World → Prop} {Qf : Exit → Act → World → Prop} (hQ : ∀ c a w, ¬ Qf (.panic c) a w) {j : Nat} {oi oj : Oper} {v : Value} (hj : ops[j]? = some oj) (hap : oi.apart ops oj = true)
  (hsi : ∀ cs b, oi.op ≠ .select cs b) (hsj : ∀ cs b, oj.op ≠ .select cs b) (hdj : ∀ c, oj.op ≠ .defer c)
  {Kf : Act → World → Prop} {a : Act} {w : World} (hy : YH P ops H oi v a) (h : wpOpIn (Fr r) 0 P ops Qf j Kf (a.put oi.dst v) w) :
  wpOpIn (Fr r) 0 P ops Qf j (fun a' w' => YH P ops H oi v a' ∧ Kf (a'.put oi.dst v) w') a w := by
 obtain ⟨h1, h2, h3⟩ := Oper.apart_spec hap
 have keep : ∀ (a : Act), YH P ops H oi v a → ∀ u, YH P ops H oi v (a.put oj.dst u) := fun a hy u =>
  hy.of_same (execOp_put oi hsi a oj.dst u h3) (wanted_put oi a oj.dst u h3)
 have keepD : ∀ d, YH P ops H oi v { a with defers := d :: a.defers } := fun d => hy.of_same rfl rfl
 unfold wpOpIn at *
 simp only [hj] at *
 rw [wanted_put oj a oi.dst v h1] at h
 split
 ·rename_i hw
  simp only [hw, if_true] at h
  unfold Oper.wpIn at *
  refine ⟨fun _ _ => trivial, ?_⟩
  have h := h.2
  rw [Oper.semAt_eq _ _ _ hdj, execOp_put oj hsj a oi.dst v h1] at h
  rw [Oper.semAt_eq _ _ _ hdj]
  generalize (execOp a.eval oj).run P w = res at *
  cases res with
  | ok x w' =>
   cases x <;> simp only [Oper.uponIn] at h ⊢
   case value u => exact ⟨keep a hy u, by rw [← Act.put_comm a v u h2]; exact h⟩
   case skip => exact ⟨keep a hy _, by rw [← Act.put_comm a v undef h2]; exact h⟩
   case defer d =>
    refine ⟨keep _ (keepD d) _, ?_⟩
    rw [← Act.put_comm _ v undef h2, ← Act.put_defers]
    exact h
   case enter f args =>
    refine ⟨h.1, CallsIn.mono h.2 fun e w'' he => ?_⟩
    cases e with
    | returned u => exact ⟨keep a hy u, by rw [← Act.put_comm a v u h2]; exact he⟩
    | panicked c => exact absurd he (hQ _ _ _)
    | outgrown => exact he
   case row row args => exact ⟨h.1, RowsIn.mono h.2 fun u w'' he => ⟨keep a hy u, by rw [← Act.put_comm a v u h2]; exact he⟩⟩
   case round l f tmps assign body =>
    refine ⟨h.1, RoundIn.mono h.2 fun e w'' he => ?_⟩
    cases e with
    | returned u => exact ⟨keep a hy u, by rw [← Act.put_comm a v u h2]; exact he⟩
    | panicked c => exact absurd he (hQ _ _ _)
    | outgrown => exact he
  | halt x w' =>
   cases x <;> simp only [Oper.uponIn] at h ⊢
   case panic u => exact absurd h (hQ _ _ _)
 ·rename_i hw
  simp only [hw] at h
  exact ⟨fun _ _ => trivial, keep a hy _, by rw [← Act.put_comm a v undef h2]; exact h.2⟩

/-- an operation that yields v at whatever time is taken first -/
theorem AnyG.first {ops : Array Oper} {H : World → Prop} {Qf : Exit → Act → World → Prop} (hQ : ∀ c a w, ¬ Qf (.panic c) a w) (hqu : quietOps ops = true) {i : Nat} {oi : Oper} {v : Value} (hi : ops[i]? = some oi) :
  ∀ (fuel : Nat) (G : HeldP) (listed : Array Bool) (a : Act) (w : World),
   (∀ j oj, ops[j]? = some oj → j ≠ i → listed.getD j true = false → (∀ e ∈ oj.after, Region.binds .any e = true → e.on ≠ i) → oi.apart ops oj = true) →
   i ∈ Region.ready .any ops listed → YH P ops H oi v a →
   AnyG P r ops Qf fuel ((i, H) :: G) (listed.setIfInBounds i true) (a.put oi.dst v) w → AnyG P r ops Qf (fuel + 1) G listed a w := by
 have hdi := (quiet_sel hqu hi).2
 intro fuel
 induction fuel with
 | zero =>
  intro G listed a w _ hr hy H
  refine ⟨fun p hp => H.holds p (List.mem_cons_of_mem _ hp), fun h => (by rw [h] at hr; cases hr), fun j hj => ?_⟩
  by_cases hji : j = i
  ·subst hji
   exact hy.op hdi hi (H.holds _ List.mem_cons_self) (AnyG.less (fun p hp => List.mem_cons_of_mem _ (List.mem_filter.1 hp).1) H)
  ·have := ready_mono hj hji
   rw [H.2.1] at this
   cases this
 | succ fuel ih =>
  intro G listed a w hfree hr hy H
  refine ⟨fun p hp => H.holds p (List.mem_cons_of_mem _ hp), fun h => (by rw [h] at hr; cases hr), fun j hj => ?_⟩
  by_cases hji : j = i
  ·subst hji
   exact hy.op hdi hi (H.holds _ List.mem_cons_self) (AnyG.less (fun p hp => List.mem_cons_of_mem _ (List.mem_filter.1 hp).1) H)
  ·have h1 := H.2.2 j (ready_mono hj hji)
   obtain ⟨hjun, oj, hoj, hall⟩ := mem_ready.1 hj
   have hnot : ∀ e ∈ oj.after, Region.binds .any e = true → e.on ≠ i := fun e he hb heq => by
    have h1 := hall e he hb
    have h0 := (mem_ready.1 hr).1
    rw [heq] at h1
    rcases Nat.lt_or_ge i listed.size with h' | h'
    ·simp [h'] at h0 h1; rw [h0] at h1; cases h1
    ·simp [Array.getElem?_eq_none h'] at h1
   have haft : aft ops j i = false := by
    cases hc : aft ops j i with
    | false => rfl
    | true =>
     simp only [aft, hoj] at hc
     obtain ⟨e, he, hb⟩ := Array.any_eq_true'.1 hc
     simp only [Bool.and_eq_true, beq_iff_eq] at hb
     exact absurd hb.2 (hnot e he hb.1)
   have h2 := wpOpIn_swap hQ hoj (hfree j oj hoj hji hjun hnot) (quiet_sel hqu hi).1 (quiet_sel hqu hoj).1 (quiet_sel hqu hoj).2 hy h1
   have hfree' : ∀ k ok, ops[k]? = some ok → k ≠ i → (listed.setIfInBounds j true).getD k true = false →
     (∀ e ∈ ok.after, Region.binds .any e = true → e.on ≠ i) → oi.apart ops ok = true := fun k ok hk hki hun hno => by
    refine hfree k ok hk hki ?_ hno
    by_cases hjk : j = k
    ·subst hjk; exact hjun
    ·rw [getD_set_ne true hjk] at hun; exact hun
   refine wpOpIn_mono (fun a' w' h3 => ih _ (listed.setIfInBounds j true) a' w' hfree' (ready_mono hr (Ne.symm hji)) h3.1 ?_) h2
   rw [Array.setIfInBounds_comm _ _ hji]
   have := h3.2
   simp only [List.filter_cons, haft, Bool.not_false, if_true] at this
   exact this

/-- the judgement within a region that draws -/
def AW (P : Program) (r : Option Nat) (n : Nat) (ops : Array Oper) (K : Post) (Q : Exit → Post) (fuel : Nat) (listed : Array Bool) (G : Held) : Post := fun e ds L =>
  ∀ κ w a, Has n ds e a → St κ L w → (∀ p ∈ G, St κ [p.2] w) → AnyG P r ops (lift κ n K Q) fuel (heldP κ G) listed a w

theorem heldP_all {κ : Strm} {G : Held} {w : World} (h : ∀ p ∈ G, St κ [p.2] w) : ∀ p ∈ heldP κ G, p.2 w := by
 intro p hp
 obtain ⟨q, hq, rfl⟩ := List.mem_map.1 hp
 exact h q hq

theorem W.draw {id : Nat} {ops : Array Oper} (hm : P.follows .mixedOrders = true) (h : AW P r n ops K Q ops.size (Array.replicate ops.size false) [] e ds L) : W P r n (.region id ops true) K Q e ds L := fun κ w a ha hs =>
  wpIn_region_any hm (AnyG.sound (h κ _ a ha hs.drew (fun p hp => by cases hp)))

theorem AW.done {ops : Array Oper} {fuel : Nat} {listed : Array Bool} {G : Held} (hr : Region.ready .any ops listed = []) (h : K e ds L) : AW P r n ops K Q fuel listed G e ds L := fun κ w a ha hs hG => by
  cases fuel with
  | zero => exact ⟨heldP_all hG, hr, e, ds, L, ha, hs, h⟩
  | succ m => exact ⟨heldP_all hG, fun _ => ⟨e, ds, L, ha, hs, h⟩, by rw [hr]; simp⟩

theorem Pick.single {q : Res} (hp : Pick q L L') {κ : Strm} {w : World} (hs : St κ L w) : St κ [q] w := by
 have h1 := hp.ent κ w hs
 have h2 : Ent (q :: L') [q] := (Ent.perm (by simpa using (List.perm_append_comm (l₁ := [q]) (l₂ := L')))).trans (Ent.right L')
 exact h2 κ w h1

theorem St.nil {κ : Strm} {w : World} (hs : St κ L w) : St κ [] w := by
 have := Ent.right L (B := []) κ w (by simpa using hs)
 exact this

/-- a load of what stays till the operations behind it -/
theorem AW.load {ops : Array Oper} {fuel : Nat} {listed : Array Bool} {G : Held} {i : Nat} {d : Option Tmp} {op : Op} {ty : TypeId} {pos : String} {af : Array Edge} {g : Option (Nat × Bool)} {v : Value} {q : Res} (hi : ops[i]? = some ⟨d, op, ty, pos, af, g⟩) (hqu : quietOps ops = true)
    (hf : Region.free .any ops listed i = true) (hr : (Region.ready .any ops listed).contains i = true) (hw : Wn ops e ⟨d, op, ty, pos, af, g⟩ true) (hd : dstOk n d = true) (hp : Pick q L L') (hy : Yl P e [q] ⟨d, op, ty, pos, af, g⟩ v)
    (k : AW P r n ops K Q fuel (listed.setIfInBounds i true) ((i, q) :: G) (Env.put e d v) ds L) : AW P r n ops K Q (fuel + 1) listed G e ds L := fun κ w a ha hs hG => by
  have hq := hp.single hs
  refine AnyG.first (H := fun w => St κ [q] w) (fun _ _ _ h => h) hqu hi fuel (heldP κ G) listed a w (Region.free_spec hi hf) (by simpa using hr) (.inl ⟨hw n ds a ha, fun w' hs' => hy.2 n ds κ a w' ha hs'⟩) ?_
  refine k κ w _ (ha.put hd v) hs fun p hp => ?_
  rcases List.mem_cons.1 hp with rfl | hp
  · exact hq
  · exact hG p hp

/-- an operation that hangs on no memory -/
theorem AW.pure {ops : Array Oper} {fuel : Nat} {listed : Array Bool} {G : Held} {i : Nat} {d : Option Tmp} {op : Op} {ty : TypeId} {pos : String} {af : Array Edge} {g : Option (Nat × Bool)} {v : Value} (hi : ops[i]? = some ⟨d, op, ty, pos, af, g⟩) (hqu : quietOps ops = true)
    (hf : Region.free .any ops listed i = true) (hr : (Region.ready .any ops listed).contains i = true) (hw : Wn ops e ⟨d, op, ty, pos, af, g⟩ true) (hd : dstOk n d = true) (hy : ∀ Lx, Yl P e Lx ⟨d, op, ty, pos, af, g⟩ v)
    (k : AW P r n ops K Q fuel (listed.setIfInBounds i true) G (Env.put e d v) ds L) : AW P r n ops K Q (fuel + 1) listed G e ds L := fun κ w a ha hs hG => by
  have hyy : ∀ w', (execOp a.eval ⟨d, op, ty, pos, af, g⟩).run P w' = .ok (.value v) w' := fun w' => by
    have h0 : St ⟨w'.os, w'.output, w'.tape⟩ [] w' := ⟨⟨rfl, rfl, rfl⟩, fun _ => none, by simp, by simp, by simp [fps], by simp [fps]⟩
    exact (hy []).2 n ds _ a w' ha h0
  refine AnyG.first (H := fun _ => True) (fun _ _ _ h => h) hqu hi fuel (heldP κ G) listed a w (Region.free_spec hi hf) (by simpa using hr) (.inl ⟨hw n ds a ha, fun w' _ => hyy w'⟩) ?_
  refine AnyG.more (fun p hp => ?_) (k κ w _ (ha.put hd v) hs hG)
  rcases List.mem_cons.1 hp with rfl | hp
  · exact .inr fun _ => trivial
  · exact .inl hp

/-- an operation that is not carried out -/
theorem AW.not {ops : Array Oper} {fuel : Nat} {listed : Array Bool} {G : Held} {i : Nat} {d : Option Tmp} {op : Op} {ty : TypeId} {pos : String} {af : Array Edge} {g : Option (Nat × Bool)} (hi : ops[i]? = some ⟨d, op, ty, pos, af, g⟩) (hqu : quietOps ops = true)
    (hf : Region.free .any ops listed i = true) (hr : (Region.ready .any ops listed).contains i = true) (hw : Wn ops e ⟨d, op, ty, pos, af, g⟩ false) (hd : dstOk n d = true)
    (k : AW P r n ops K Q fuel (listed.setIfInBounds i true) G (Env.put e d undef) ds L) : AW P r n ops K Q (fuel + 1) listed G e ds L := fun κ w a ha hs hG => by
  refine AnyG.first (H := fun _ => True) (fun _ _ _ h => h) hqu hi fuel (heldP κ G) listed a w (Region.free_spec hi hf) (by simpa using hr) (.inr ⟨hw n ds a ha, rfl⟩) ?_
  refine AnyG.more (fun p hp => ?_) (k κ w _ (ha.put hd undef) hs hG)
  rcases List.mem_cons.1 hp with rfl | hp
  · exact .inr fun _ => trivial
  · exact .inl hp

inductive Hold : Held → List Res → Prop
  | nil {L : List Res} : Hold [] L
  | cons {i : Nat} {q : Res} {G : Held} {L L' : List Res} : Pick q L L' → Hold G L → Hold ((i, q) :: G) L
theorem Hold.all {G : Held} (h : Hold G L) {κ : Strm} {w : World} (hs : St κ L w) : ∀ p ∈ G, St κ [p.2] w := by
 induction h with
 | nil => intro p hp; cases hp
 | cons hp _ ih =>
  intro p hm
  rcases List.mem_cons.1 hm with rfl | hm
  ·exact hp.single hs
  ·exact ih hs p hm

/-- what stays held behind operation i -/
inductive Flt (ops : Array Oper) (i : Nat) : Held → Held → Prop
  | nil : Flt ops i [] []
  | keep {k : Nat} {q : Res} {G G' : Held} : aft ops i k = false → Flt ops i G G' → Flt ops i ((k, q) :: G) ((k, q) :: G')
  | drop {k : Nat} {q : Res} {G G' : Held} : aft ops i k = true → Flt ops i G G' → Flt ops i ((k, q) :: G) G'
theorem Flt.eq {ops : Array Oper} {i : Nat} {G G' : Held} (h : Flt ops i G G') : G.filter (fun p => !aft ops i p.1) = G' := by
 induction h with
 | nil => rfl
 | keep h _ ih => simp [h, ih]
 | drop h _ ih => simp [h, ih]

/-- the one operation that may come up -/
theorem AW.step {ops : Array Oper} {fuel : Nat} {listed : Array Bool} {G G' : Held} {i : Nat} {d : Option Tmp} {op : Op} {ty : TypeId} {pos : String} {af : Array Edge} {g : Option (Nat × Bool)} {T : Value → List Res → Prop} (hi : ops[i]? = some ⟨d, op, ty, pos, af, g⟩) (hr : Region.ready .any ops listed = [i])
  (hw : Wn ops e ⟨d, op, ty, pos, af, g⟩ true) (hd : dstOk n d = true) (h : Ex P r e L ⟨d, op, ty, pos, af, g⟩ T) (hGf : Flt ops i G G')
  (k : ∀ v L', T v L' → Hold G' L' ∧ AW P r n ops K Q fuel (listed.setIfInBounds i true) G' (Env.put e d v) ds L') : AW P r n ops K Q (fuel + 1) listed G e ds L := fun κ w a ha hs hGs => by
 have hG := hGf.eq
 refine ⟨heldP_all hGs, fun h0 => ?_, fun j hj => ?_⟩
 ·rw [hr] at h0; cases h0
 rw [hr] at hj
 simp only [List.mem_singleton] at hj
 subst hj
 unfold wpOpIn
 simp only [hi]
 rw [if_pos (hw n ds a ha)]
 have hmap : (heldP κ G).filter (fun p => !aft ops j p.1) = heldP κ G' := by
  rw [← hG]; simp [heldP, List.filter_map, Function.comp_def]
 rw [hmap]
 exact h n ds κ a w _ _ ha hs fun v L' w' ht hs' => (k v L' ht).2 κ w' _ (ha.put hd v) hs' ((k v L' ht).1.all hs')

end
section
variable {P : Program} {r : Option Nat} {n : Nat} {K : Post} {Q : Exit → Post} {e : Env} {ds : List Deferred} {L L' : List Res}
theorem Aq {ops : Array Oper} {fuel : Nat} {listed : Array Bool} {G : Held} {i : Nat} {d : Option Tmp} {op : Op} {ty : TypeId} {pos : String} {af : Array Edge} {g : Option (Nat × Bool)} {v : Value} (hi : ops[i]? = some ⟨d, op, ty, pos, af, g⟩) (hw : Wn ops e ⟨d, op, ty, pos, af, g⟩ true) (hd : dstOk n d = true) (hy : ∀ Lx, Yl P e Lx ⟨d, op, ty, pos, af, g⟩ v)
    (k : AW P r n ops K Q fuel (listed.setIfInBounds i true) G (Env.put e d v) ds L) (hqu : quietOps ops = true := by kernel_rfl)
    (hf : Region.free .any ops listed i = true := by kernel_rfl) (hr : (Region.ready .any ops listed).contains i = true := by kernel_rfl) : AW P r n ops K Q (fuel + 1) listed G e ds L := AW.pure hi hqu hf hr hw hd hy k
theorem Al {ops : Array Oper} {fuel : Nat} {listed : Array Bool} {G : Held} {i : Nat} {d : Option Tmp} {op : Op} {ty : TypeId} {pos : String} {af : Array Edge} {g : Option (Nat × Bool)} {v : Value} {q : Res} (hi : ops[i]? = some ⟨d, op, ty, pos, af, g⟩) (hw : Wn ops e ⟨d, op, ty, pos, af, g⟩ true) (hd : dstOk n d = true) (hp : Pick q L L') (hy : Yl P e [q] ⟨d, op, ty, pos, af, g⟩ v)
    (k : AW P r n ops K Q fuel (listed.setIfInBounds i true) ((i, q) :: G) (Env.put e d v) ds L) (hqu : quietOps ops = true := by kernel_rfl)
    (hf : Region.free .any ops listed i = true := by kernel_rfl) (hr : (Region.ready .any ops listed).contains i = true := by kernel_rfl) : AW P r n ops K Q (fuel + 1) listed G e ds L := AW.load hi hqu hf hr hw hd hp hy k
end
end Go.Yb
