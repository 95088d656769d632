/-
  A part of the proof of windowLine_holds: see the text that holds it. No conditions of its own.
-/
import Derived.Test.YtbfhhinhjgdgpaaGreatDoorMore
import Derived.RecoverIn
namespace Go.Yb
open Go Go.RowKit

/-! ### Code that may panic -/

/-- what a walk's post says, of frame and world; a panic has a post of its own -/
def lift2 (κ : Strm) (n : Nat) (K : Post) (Q : Exit → Post) : Exit → Act → World → Prop
  | .normal, a, w => ∃ e ds L, Has n ds e a ∧ St κ L w ∧ K e ds L
  | .outgrown, _, _ => False
  | ex, a, w => ∃ e ds L, Has n ds e a ∧ St κ L w ∧ Q ex e ds L

def W2 (P : Program) (r : Option Nat) (n : Nat) (c : Code) (K : Post) (Q : Exit → Post) : Post := fun e ds L =>
  ∀ κ w a, Has n ds e a → St κ L w → c.wpIn (Fr r) 0 P (lift2 κ n K Q) a w

def OW2 (P : Program) (r : Option Nat) (n : Nat) (ops : Array Oper) (l : List Oper) (K : Post) (Q : Exit → Post) : Post := fun e ds L =>
  ∀ κ w a, Has n ds e a → St κ L w → wpListIn (Fr r) 0 P ops (lift2 κ n K Q) l a w

section
variable {P : Program} {r : Option Nat} {n : Nat} {K : Post} {Q : Exit → Post} {e : Env} {ds : List Deferred} {L L' Ls : List Res}
variable {d : Option Tmp} {ty : TypeId} {pos : String} {af : Array Edge} {g : Option (Nat × Bool)}

theorem lift_two {κ : Strm} {ex : Exit} {a : Act} {w : World} (h : lift κ n K Q ex a w) : lift2 κ n K Q ex a w := by
 cases ex with
 | panic ch => exact h.elim
 | outgrown => exact h.elim
 | _ => exact h
theorem W2.of {c : Code} (h : W P r n c K Q e ds L) : W2 P r n c K Q e ds L := fun κ w a ha hs => wpIn_mono (h κ w a ha hs) fun _ _ _ q => lift_two q
theorem W2.ent {c : Code} {L' : List Res} (h : Ent L L') (k : W2 P r n c K Q e ds L') : W2 P r n c K Q e ds L := fun κ w a ha hs => k κ w a ha (h κ w hs)

theorem W2.le {c : Code} {e' : Env} (h : Le e' e) (k : W2 P r n c K Q e' ds L) : W2 P r n c K Q e ds L := fun κ w a ha hs => k κ w a (ha.le h) hs

theorem OW2.ent {ops : Array Oper} {l : List Oper} {L' : List Res} (h : Ent L L') (k : OW2 P r n ops l K Q e ds L') : OW2 P r n ops l K Q e ds L := fun κ w a ha hs => k κ w a ha (h κ w hs)

theorem W2.seq {x y : Code} (h : W2 P r n x (W2 P r n y K Q) Q e ds L) : W2 P r n (.seq x y) K Q e ds L := fun κ w a ha hs =>
  wpIn_seq (wpIn_mono (h κ w a ha hs) fun ex a' w' q => by
    cases ex with
    | normal => obtain ⟨e', ds', L', h1, h2, h3⟩ := q; exact h3 κ w' a' h1 h2
    | _ => exact q)

theorem W2.skip (h : K e ds L) : W2 P r n .skip K Q e ds L := fun _ _ _ ha hs => wpIn_skip ⟨_, _, _, ha, hs, h⟩

theorem W2.label {l : Nat} (h : K e ds L) : W2 P r n (.label l) K Q e ds L := fun _ _ _ ha hs => wpIn_label ⟨_, _, _, ha, hs, h⟩

theorem W2.ret (h : Q .ret e ds L) : W2 P r n .ret K Q e ds L := fun _ _ _ ha hs => wpIn_ret ⟨_, _, _, ha, hs, h⟩

theorem W2.exit {id : Nat} (h : Q (.exit id) e ds L) : W2 P r n (.exit id) K Q e ds L := fun _ _ _ ha hs => wpIn_exit ⟨_, _, _, ha, hs, h⟩

theorem W2.goto {id : Nat} (h : Q (.goto id) e ds L) : W2 P r n (.goto id) K Q e ds L := fun _ _ _ ha hs => wpIn_goto ⟨_, _, _, ha, hs, h⟩

theorem W2.cond {c : Operand} {x y : Code} {t : Bool} (hc : Env.ev e c = some (.bool t)) (h1 : t = true → W2 P r n x K Q e ds L) (h2 : t = false → W2 P r n y K Q e ds L) :
    W2 P r n (.cond c x y) K Q e ds L := fun κ w a ha hs => by
  refine wpIn_cond (t := t) (ha.eval hc) ?_
  cases t with
  | true => exact h1 rfl κ w a ha hs
  | false => exact h2 rfl κ w a ha hs

theorem W2.cond_true {c : Operand} {x y : Code} (hc : Env.ev e c = some (.bool true)) (h : W2 P r n x K Q e ds L) : W2 P r n (.cond c x y) K Q e ds L :=
  W2.cond hc (fun _ => h) (fun h => by cases h)

theorem W2.cond_false {c : Operand} {x y : Code} (hc : Env.ev e c = some (.bool false)) (h : W2 P r n y K Q e ds L) : W2 P r n (.cond c x y) K Q e ds L :=
  W2.cond hc (fun h => by cases h) (fun _ => h)

theorem W2.block {id : Nat} {c : Code} (h : W2 P r n c K (catchQ id K Q) e ds L) : W2 P r n (.block id c) K Q e ds L := fun κ w a ha hs =>
  wpIn_block (wpIn_mono (h κ w a ha hs) fun ex a' w' q => by
    cases ex with
    | exit j =>
      obtain ⟨e', ds', L', h1, h2, h3⟩ := q
      simp only [Exit.inBlock]
      simp only [catchQ] at h3
      by_cases hj : j = id
      · subst hj
        rw [if_pos rfl]
        rw [show Nat.beq j j = true from Nat.beq_refl j] at h3
        exact ⟨e', ds', L', h1, h2, h3⟩
      · rw [if_neg hj]
        rw [show Nat.beq j id = false from by cases hq : Nat.beq j id with | true => exact absurd (Nat.eq_of_beq_eq_true hq) hj | false => rfl] at h3
        exact ⟨e', ds', L', h1, h2, h3⟩
    | _ => exact q)

theorem W2.loop {c : Code} {X : Type} (E : X → Env) (D : X → List Deferred) (R : X → List Res) (μ : X → Nat) (x0 : X)
  (h0 : Le (E x0) e ∧ D x0 = ds ∧ Ent L (R x0))
  (round : ∀ x, W2 P r n c (fun e' ds' L' => ∃ x', Le (E x') e' ∧ D x' = ds' ∧ Ent L' (R x') ∧ μ x' < μ x) Q (E x) (D x) (R x)) :
  W2 P r n (.loop c) K Q e ds L := fun κ w a ha hs => by
 intro b k cs hro hb hr
 have key : ∀ j x a w, μ x = j → Has n (D x) (E x) a → St κ (R x) w →
   ∃ ex a' w', lift2 κ n K Q ex a' w' ∧ ArrivesIn (Machine.fenced P (Fr r)) P (lone (b.atR a (.code c :: .inLoop c :: k)) cs w) b k cs ex a' w' := by
  intro j
  induction j using Nat.strongRecOn with
  | _ j ih =>
   intro x a w hn hI hS
   obtain ⟨ex, a₁, w₁, hq, harr⟩ := round x κ w a hI hS b (.inLoop c :: k) cs hro hb hr
   cases ex with
   | normal =>
    obtain ⟨e', ds', L', h1, h2, x', h3, h4, h5, h6⟩ := hq
    obtain ⟨e₂, a₂, w₂, hq₂, harr₂⟩ := ih (μ x') (hn ▸ h6) x' a₁ w₁ rfl (h4 ▸ h1.le h3) (h5 κ w₁ h2)
    exact ⟨e₂, a₂, w₂, hq₂, .of_steps (StepsIn.trans harr (.one (fenced_calm hb hr rfl) stepR_inLoop)) harr₂⟩
   | exit id => exact ⟨.exit id, a₁, w₁, hq, .pass (x := .inLoop c) rfl (fun _ _ => .inl (by simp)) harr⟩
   | goto l => exact ⟨.goto l, a₁, w₁, hq, .pass (x := .inLoop c) rfl (fun _ _ => .inl (by simp)) harr⟩
   | ret => exact ⟨.ret, a₁, w₁, hq, .pass (x := .inLoop c) rfl (fun _ _ => .inl (by simp)) harr⟩
   | panic ch => exact ⟨.panic ch, a₁, w₁, hq, .pass (x := .inLoop c) rfl (fun _ _ => .inl (by simp)) harr⟩
   | outgrown => exact hq.elim
 obtain ⟨h1, h2, h3⟩ := h0
 obtain ⟨ex, a', w', hq, harr⟩ := key _ x0 a w rfl (h2 ▸ ha.le h1) (h3 κ w hs)
 exact ⟨ex, a', w', hq, .of_steps (.one (fenced_calm hb hr rfl) stepR_loop) harr⟩

theorem W2.cut {c : Code} (K' : Post) (h : W2 P r n c K' Q e ds L) (hk : ∀ e ds L, K' e ds L → K e ds L) : W2 P r n c K Q e ds L := fun κ w a ha hs =>
  wpIn_mono (h κ w a ha hs) fun ex a' w' q => by
    cases ex with
    | normal => obtain ⟨e', ds', L', h1, h2, h3⟩ := q; exact ⟨e', ds', L', h1, h2, hk _ _ _ h3⟩
    | _ => exact q

theorem W2.loopI {c : Code} {X : Type} (Inv : X → Prop) (E : X → Env) (D : X → List Deferred) (R : X → List Res) (μ : X → Nat) (x0 : X)
    (hi : Inv x0) (hE : Le (E x0) e) (hD : D x0 = ds) (hR : Ent L (R x0))
    (round : ∀ x, Inv x → W2 P r n c (fun e' ds' L' => ∃ x', Inv x' ∧ Le (E x') e' ∧ D x' = ds' ∧ Ent L' (R x') ∧ μ x' < μ x) Q (E x) (D x) (R x)) :
    W2 P r n (.loop c) K Q e ds L :=
  W2.loop (X := { x : X // Inv x }) (fun x => E x.1) (fun x => D x.1) (fun x => R x.1) (fun x => μ x.1) ⟨x0, hi⟩ ⟨hE, hD, hR⟩ fun x =>
    W2.cut _ (round x.1 x.2) fun _ _ _ ⟨x', h1, h2, h3, h4, h5⟩ => ⟨⟨x', h1⟩, h2, h3, h4, h5⟩

theorem W2.of_le {y : Code} {e' : Env} {L' : List Res} (hl : Le e' e) (hL : Ent L L') (h : W2 P r n y K Q e' ds L') : W2 P r n y K Q e ds L := (h.le hl).ent hL

theorem W2.region {id : Nat} {l : List Oper} (h : OW2 P r n l.toArray l K Q e ds L) : W2 P r n (.region id l.toArray false) K Q e ds L := fun κ w a ha hs => wpIn_region_lit (h κ w a ha hs)

theorem OW2.nil {ops : Array Oper} (h : K e ds L) : OW2 P r n ops [] K Q e ds L := fun _ _ _ ha hs => ⟨_, _, _, ha, hs, h⟩

theorem OW2.ex {ops : Array Oper} {o : Oper} {l : List Oper} {T : Value → List Res → Prop} (hw : Wn ops e o true) (hd : dstOk n o.dst = true) (h : Ex P r e L o T)
    (k : ∀ v L', T v L' → OW2 P r n ops l K Q (Env.put e o.dst v) ds L') : OW2 P r n ops (o :: l) K Q e ds L := fun κ w a ha hs => by
  unfold wpListIn
  rw [if_pos (hw n ds a ha)]
  exact h n ds κ a w _ _ ha hs fun v L' w' ht hs' => k v L' ht κ w' _ (ha.put hd v) hs'

theorem OW2.yl {ops : Array Oper} {d : Option Tmp} {op : Op} {ty : TypeId} {pos : String} {af : Array Edge} {g : Option (Nat × Bool)} {l : List Oper} {v : Value} (hw : Wn ops e ⟨d, op, ty, pos, af, g⟩ true) (hd : dstOk n d = true) (h : Yl P e L ⟨d, op, ty, pos, af, g⟩ v)
    (k : OW2 P r n ops l K Q (Env.put e d v) ds L) : OW2 P r n ops (⟨d, op, ty, pos, af, g⟩ :: l) K Q e ds L :=
  OW2.ex hw hd h.ex fun v' L' ⟨h1, h2⟩ => by subst h1 h2; exact k

theorem OW2.not {ops : Array Oper} {d : Option Tmp} {op : Op} {ty : TypeId} {pos : String} {af : Array Edge} {g : Option (Nat × Bool)} {l : List Oper} (hw : Wn ops e ⟨d, op, ty, pos, af, g⟩ false) (hd : dstOk n d = true)
    (k : OW2 P r n ops l K Q (Env.put e d undef) ds L) : OW2 P r n ops (⟨d, op, ty, pos, af, g⟩ :: l) K Q e ds L := fun κ w a ha hs => by
  unfold wpListIn
  rw [if_neg (by rw [hw n ds a ha]; simp)]
  exact ⟨fun _ _ => trivial, k κ w _ (ha.put hd undef) hs⟩

theorem W2.fact {c : Code} {φ : Prop} (h : ∀ κ w, St κ L w → φ) (k : φ → W2 P r n c K Q e ds L) : W2 P r n c K Q e ds L := fun κ w a ha hs => k (h κ w hs) κ w a ha hs

theorem OW2.fact {ops : Array Oper} {l : List Oper} {φ : Prop} (h : ∀ κ w, St κ L w → φ) (k : φ → OW2 P r n ops l K Q e ds L) : OW2 P r n ops l K Q e ds L := fun κ w a ha hs => k (h κ w hs) κ w a ha hs

theorem OW2.box {ops : Array Oper} {l : List Oper} {T : TypeId} {x : Operand} {v : Value} {us : List Value} (hw : Wn ops e ⟨d, .box T x, ty, pos, af, g⟩ true) (hd : dstOk n d = true) (hx : Env.ev e x = some v) (hc : CellsI v us)
    (k : ∀ b, OW2 P r n ops l K Q (Env.put e d (.pointer (some ⟨b, 0, none⟩))) ds (.cell b us T :: L)) : OW2 P r n ops (⟨d, .box T x, ty, pos, af, g⟩ :: l) K Q e ds L :=
  OW2.ex hw hd (Ex.box hx hc) fun v' L' ⟨b, h1, h2⟩ => by subst h1 h2; exact k b

theorem OW2.alloc {ops : Array Oper} {l : List Oper} {T : TypeId} {z : Value} {us : List Value} (hw : Wn ops e ⟨d, .alloc T, ty, pos, af, g⟩ true) (hd : dstOk n d = true) (hz : ZeroT P T z) (hc : CellsI z us)
    (k : ∀ b, OW2 P r n ops l K Q (Env.put e d (.pointer (some ⟨b, 0, none⟩))) ds (.cell b us T :: L)) : OW2 P r n ops (⟨d, .alloc T, ty, pos, af, g⟩ :: l) K Q e ds L :=
  OW2.ex hw hd (Ex.alloc hz hc) fun v' L' ⟨b, h1, h2⟩ => by subst h1 h2; exact k b

theorem OW2.store {ops : Array Oper} {l : List Oper} {T : TypeId} {x y : Operand} {b off k : Nat} {vs us vs' : List Value} {TT : TypeId} {v : Value} (hw : Wn ops e ⟨none, .store T x y, ty, pos, af, g⟩ true) (hT : SizeT P T k) (hx : Env.ev e x = some (.pointer (some ⟨b, off, none⟩)))
    (hy : Env.ev e y = some v) (hc : CellsI v us) (ho : OneI us) (hk : us.length = k) (hp : Pick (.cell b vs TT) L L') (hv : PutI vs off us vs')
    (kk : OW2 P r n ops l K Q e ds (.cell b vs' TT :: L')) : OW2 P r n ops (⟨none, .store T x y, ty, pos, af, g⟩ :: l) K Q e ds L :=
  OW2.ex hw rfl (Ex.store hT hx hy hc ho hk hp hv) fun v' L1 h1 => by subst h1; exact kk

theorem OW2.call {ops : Array Oper} {l : List Oper} {fo : Operand} {args : Array Operand} {ats : Array TypeId} {fv : Value} {vs : List Value} {L1 L2 : List Res} {R : Value → List Res → Prop}
    (hw : Wn ops e ⟨d, .call { callee := .value fo, args := args, argTypes := ats }, ty, pos, af, g⟩ true) (hd : dstOk n d = true) (hf : Env.ev e fo = some fv) (ha : Env.evs e args.toList = some vs)
    (h : Tri P fv vs.toArray L1 R) (hs : Split L L1 L2) (k : ∀ v L', R v L' → OW2 P r n ops l K Q (Env.put e d v) ds (L' ++ L2)) :
    OW2 P r n ops (⟨d, .call { callee := .value fo, args := args, argTypes := ats }, ty, pos, af, g⟩ :: l) K Q e ds L :=
  OW2.ex hw hd (Ex.call rfl hf ha h hs) fun v L' ⟨L1', h1, h2⟩ => by subst h2; exact k v L1' h1

theorem OW2.callv {ops : Array Oper} {l : List Oper} {f : FuncId} {args : Array Operand} {ats : Array TypeId} {vs : List Value} {L1 L2 : List Res} {v : Value}
    (hw : Wn ops e ⟨d, .call { callee := .value (.func f), args := args, argTypes := ats }, ty, pos, af, g⟩ true) (hd : dstOk n d = true) (hc : ∀ args w, (callFunc f args).run P w = .ok (.enter f args) w) (ha : Env.evs e args.toList = some vs)
    (h : FnV P f vs.toArray L1 v) (hs : Split L L1 L2) (k : OW2 P r n ops l K Q (Env.put e d v) ds L2) :
    OW2 P r n ops (⟨d, .call { callee := .value (.func f), args := args, argTypes := ats }, ty, pos, af, g⟩ :: l) K Q e ds L :=
  OW2.call hw hd rfl ha (FnC.tri0 hc h) hs fun v' L' ⟨h1, h2⟩ => by subst h1 h2; exact k

theorem OW2.split {ops : Array Oper} {l : List Oper} {t : Nat} {b : Bool} (_h : Env.get e t = some (.bool b)) (h1 : b = true → OW2 P r n ops l K Q e ds L) (h2 : b = false → OW2 P r n ops l K Q e ds L) : OW2 P r n ops l K Q e ds L := by
 cases hb : b with
 | true => exact h1 hb
 | false => exact h2 hb

theorem W2.cond_t1 {c : Operand} {x y : Code} {t : Bool} (hc : Env.ev e c = some (.bool t)) (ht : t = true) (h : W2 P r n x K Q e ds L) : W2 P r n (.cond c x y) K Q e ds L := W2.cond hc (fun _ => h) (fun h' => by rw [ht] at h'; cases h')

theorem W2.cond_f1 {c : Operand} {x y : Code} {t : Bool} (hc : Env.ev e c = some (.bool t)) (ht : t = false) (h : W2 P r n y K Q e ds L) : W2 P r n (.cond c x y) K Q e ds L := W2.cond hc (fun h' => by rw [ht] at h'; cases h') (fun _ => h)

theorem W2.loopS {c : Code} {X : Type} (Inv : X → Prop) (E : X → Env) (R : X → List Res) (μ : X → Nat) (x0 : X) (es : Env)
    (hi : Inv x0) (hE : Le (E x0 ++ es) e) (hR : Split L (R x0) Ls)
    (round : ∀ x, Inv x → W2 P r n c (fun e' ds' L' => ∃ x' L2, Inv x' ∧ Le (E x' ++ es) e' ∧ ds = ds' ∧ Split L' (R x') L2 ∧ Drops L2 Ls ∧ μ x' < μ x) Q (E x ++ es) ds (R x ++ Ls)) :
    W2 P r n (.loop c) K Q e ds L :=
  W2.loopI Inv (fun x => E x ++ es) (fun _ => ds) (fun x => R x ++ Ls) μ x0 hi hE rfl hR.ent fun x hx =>
    W2.cut _ (round x hx) fun _ _ _ ⟨x', L2, h1, h2, h3, h4, h5, h6⟩ => ⟨x', h1, h2, h3, h4.ent.trans (h5.app _), h6⟩

/-- THE CONTRACT OF A FUNCTION THAT MAY PANIC -/
def FnP (P : Program) (f : FuncId) (args : Array Value) (L : List Res) (R : Ending → List Res → Prop) : Prop :=
  ∀ Lf κ w, St κ (L ++ Lf) w → CallsIn Fence.wide 0 P f args w (fun e w' => e ≠ .outgrown ∧ ∃ L', R e L' ∧ St κ (L' ++ Lf) w')

theorem OW2.callP {ops : Array Oper} {l : List Oper} {f : FuncId} {args : Array Operand} {ats : Array TypeId} {vs : List Value} {L1 L2 : List Res} {R : Ending → List Res → Prop}
  (hw : Wn ops e ⟨d, .call { callee := .value (.func f), args := args, argTypes := ats }, ty, pos, af, g⟩ true) (hd : dstOk n d = true) (hc : ∀ args w, (callFunc f args).run P w = .ok (.enter f args) w) (ha : Env.evs e args.toList = some vs)
  (h : FnP P f vs.toArray L1 R) (hs : Split L L1 L2) (kr : ∀ v L', R (.returned v) L' → OW2 P r n ops l K Q (Env.put e d v) ds (L' ++ L2))
  (kp : ∀ ch L', R (.panicked ch) L' → Q (.panic ch) e ds (L' ++ L2)) :
  OW2 P r n ops (⟨d, .call { callee := .value (.func f), args := args, argTypes := ats }, ty, pos, af, g⟩ :: l) K Q e ds L := fun κ w a hh hst => by
 unfold wpListIn
 rw [if_pos (hw n ds a hh)]
 refine ⟨fun _ _ => trivial, ?_⟩
 have h3 := h L2 κ w (hs.ent κ w hst)
 have hargs : args.map a.eval = vs.toArray := by
  rw [← hh.evals ha, ← Array.toList_map]
 have hex : (execOp a.eval ⟨d, .call { callee := .value (.func f), args := args, argTypes := ats }, ty, pos, af, g⟩).run P w = .ok (.enter f vs.toArray) w := by
  have h0 : a.eval (.func f) = .func (.func f) #[] #[] := rfl
  simp only [execOp, Sem.run_bind, resolve, hargs, h0]
  simp [Deferred.ofValue, invoke, hc]
 rw [Oper.semAt_eq _ _ _ (by simp), hex]
 refine ⟨fun h => by simp [Fence.wide] at h, trivial, ?_⟩
 intro cs hroom
 obtain ⟨e', w', fr, hR, hcm, hx⟩ := h3.2 cs hroom
 obtain ⟨hno, L', b, c⟩ := hR
 cases e' with
 | returned v => exact ⟨.returned v, w', fr, kr v L' b κ w' _ (hh.put hd v) c, hcm, hx⟩
 | panicked ch => exact ⟨.panicked ch, w', fr, ⟨e, ds, _, hh, c, kp ch L' b⟩, hcm, hx⟩
 | outgrown => exact absurd rfl hno

theorem OW2.panic {ops : Array Oper} {l : List Oper} {x : Operand} {t : TypeId} {v : Value} (hw : Wn ops e ⟨d, .panic x, ty, pos, af, g⟩ true) (hx : Env.ev e x = some (.iface t v))
  (h : Q (.panic [{ v := .iface t v, recovered := false }]) e ds L) : OW2 P r n ops (⟨d, .panic x, ty, pos, af, g⟩ :: l) K Q e ds L := fun κ w a hh hst => by
 unfold wpListIn
 rw [if_pos (hw n ds a hh)]
 refine ⟨fun _ _ => trivial, ?_⟩
 have hex : (execOp a.eval ⟨d, .panic x, ty, pos, af, g⟩).run P w = .halt (.panic (.iface t v)) w := by
  simp only [execOp, hh.eval hx]; rfl
 rw [Oper.semAt_eq _ _ _ (by simp), hex]
 exact ⟨e, ds, L, hh, hst, h⟩

theorem OW2.defer {ops : Array Oper} {l : List Oper} {fo : Operand} {f : FuncId} {cap : List Value} (hr : r = none) (hw : Wn ops e ⟨none, .defer { callee := .value fo, args := #[], argTypes := #[] }, ty, pos, af, g⟩ true)
  (hf : Env.ev e fo = some (.func (.func f) #[] cap.toArray)) (h : OW2 P r n ops l K Q e ({ target := .fn (.func f) cap.toArray, args := #[] } :: ds) L) :
  OW2 P r n ops (⟨none, .defer { callee := .value fo, args := #[], argTypes := #[] }, ty, pos, af, g⟩ :: l) K Q e ds L := fun κ w a hh hst => by
 unfold wpListIn
 rw [if_pos (hw n ds a hh)]
 refine ⟨fun _ _ => trivial, ?_⟩
 have hex : (execOp a.eval ⟨none, .defer { callee := .value fo, args := #[], argTypes := #[] }, ty, pos, af, g⟩).run P w = .ok (.defer { target := .fn (.func f) cap.toArray, args := #[] }) w := by
  simp only [execOp, Sem.run_bind, resolve, hh.eval hf]
  simp [Deferred.ofValue]
 subst hr
 show Oper.uponIn _ _ _ _ _ _ _ (Sem.run P (Oper.semAt none a.eval _) w)
 rw [Oper.semAt_none, hex]
 refine h κ w _ ⟨hh.1, ?_, hh.2.2⟩ hst
 show _ :: a.defers = _
 rw [hh.2.1]

/-- what a body that may panic must come to -/
def FinP (P : Program) (fn : Func) (R : Ending → List Res → Prop) (Lf : List Res) : Post := fun e ds L =>
  ∃ v L', ds = [] ∧ Rsl P fn e L v ∧ R (.returned v) L' ∧ Ent L (L' ++ Lf)
def PanP (R : Ending → List Res → Prop) (Lf : List Res) (ch : List PanicEntry) : Post := fun _ ds L => ∃ L', ds = [] ∧ R (.panicked ch) L' ∧ Ent L (L' ++ Lf)
def exP (P : Program) (fn : Func) (R : Ending → List Res → Prop) (Lf : List Res) : Exit → Post := fun ex => match ex with | .ret => FinP P fn R Lf | .panic ch => PanP R Lf ch | _ => fun _ _ _ => False

theorem has_enter {fn : Func} {args : List Value} (hn : args.length ≤ fn.ntmps) : Has fn.ntmps [] (env0 0 args) { tmps := args.toArray ++ Array.replicate (fn.ntmps - args.toArray.size) undef, defers := [] } := by
 refine ⟨by simp; omega, rfl, fun t v ht => ?_⟩
 obtain ⟨_, h2⟩ := env0_get args 0 t v ht
 have hlt : t < args.length := by simpa using (List.getElem?_eq_some_iff.1 h2).1
 simp only [Nat.sub_zero] at h2
 rw [Array.getElem?_append_left (by simpa using hlt)]
 simpa using h2

theorem FnP.go {f : FuncId} {fn : Func} {m : Nat} {c : Code} {args : List Value} {R : Ending → List Res → Prop} (hf : P.funcs[f]? = some fn) (hn : fn.ntmps = m) (hb : fn.body = some c) (hl : args.length ≤ m)
  (h : ∀ Lf, W2 P none m c (FinP P fn R Lf) (exP P fn R Lf) (env0 0 args) [] (L ++ Lf)) : FnP P f args.toArray L R := fun Lf κ w hs => by
 subst hn
 refine callsIn_of_wp_marks hf hb trivial ?_
 refine wpIn_mono (h Lf κ w _ (has_enter hl) hs) fun ex a' w' q => ?_
 have fin : ∀ e ds L', Has fn.ntmps ds e a' → St κ L' w' → FinP P fn R Lf e ds L' →
   LeavesInM Fence.wide 0 P fn a'.tmps (fun e w' => e ≠ .outgrown ∧ ∃ L', R e L' ∧ St κ (L' ++ Lf) w') a'.defers .returning w' := by
  rintro e ds L1 ha hst ⟨v, L', rfl, hR, hr, hE⟩
  rw [ha.2.1]
  exact ⟨v, hR _ _ κ a' w' ha hst, by simp, L', hr, hE κ w' hst⟩
 cases ex with
 | normal => obtain ⟨e', ds', L', h1, h2, h3⟩ := q; exact fin _ _ _ h1 h2 h3
 | ret => obtain ⟨e', ds', L', h1, h2, h3⟩ := q; exact fin _ _ _ h1 h2 h3
 | exit j => obtain ⟨e', ds', L', h1, h2, h3⟩ := q; exact h3.elim
 | goto j => obtain ⟨e', ds', L', h1, h2, h3⟩ := q; exact h3.elim
 | panic ch =>
  obtain ⟨e', ds', L', h1, h2, L1, h3, h4, h5⟩ := q
  subst h3
  show LeavesInM _ _ _ _ _ _ a'.defers _ _
  rw [h1.2.1]
  exact ⟨by simp, L1, h4, h5 κ w' h2⟩
 | outgrown => exact q.elim

/-- a deferred closure, at a frame that returns: nothing turns -/
def DeferR (P : Program) (f : FuncId) (cap : Array Value) (L : List Res) : Prop :=
  ∀ Lf κ w, St κ (L ++ Lf) w → CallsDIn Fence.wide 0 P f cap .returning w fun e u' w' => (∃ v, e = .returned v) ∧ u' = .returning ∧ St κ (L ++ Lf) w'
/-- a deferred closure, at a frame that panics: it recovers -/
def DeferP (P : Program) (f : FuncId) (cap : Array Value) (L L' : List Res) : Prop :=
  ∀ t x Lf κ w, St κ (L ++ Lf) w → CallsDIn Fence.wide 0 P f cap (.panicking [{ v := .iface t x, recovered := false }]) w fun e u' w' => (∃ v, e = .returned v) ∧ u' = .panicking [{ v := .iface t x, recovered := true }] ∧ St κ (L' ++ Lf) w'

/-- what a body with one deferred closure must come to -/
def FinD (P : Program) (fn : Func) (R : Value → List Res → Prop) (Lf : List Res) : Post := fun e ds L =>
  ∃ f cap A Lx v L', ds = [{ target := .fn (.func f) cap, args := #[] }] ∧ (∀ args w, (callFunc f args).run P w = .ok (.enter f args) w) ∧ DeferR P f cap A ∧ Ent L (A ++ Lx) ∧ Rsl P fn e (A ++ Lx) v ∧ R v L' ∧ Ent (A ++ Lx) (L' ++ Lf)
def PanD (P : Program) (fn : Func) (R : Value → List Res → Prop) (Lf : List Res) (ch : List PanicEntry) : Post := fun e ds L =>
  ∃ t x f cap A A' Lx v L', ch = [{ v := .iface t x, recovered := false }] ∧ ds = [{ target := .fn (.func f) cap, args := #[] }] ∧ (∀ args w, (callFunc f args).run P w = .ok (.enter f args) w) ∧ DeferP P f cap A A' ∧ Ent L (A ++ Lx) ∧ Rsl P fn e (A' ++ Lx) v ∧ R v L' ∧ Ent (A' ++ Lx) (L' ++ Lf)
def exD (P : Program) (fn : Func) (R : Value → List Res → Prop) (Lf : List Res) : Exit → Post := fun ex => match ex with | .ret => FinD P fn R Lf | .panic ch => PanD P fn R Lf ch | _ => fun _ _ _ => False

theorem PanD.mk {fn : Func} {R : Value → List Res → Prop} {Lf A A' Lx L' L2 : List Res} {t : TypeId} {x : Value} {f : FuncId} {cap : Array Value} {v : Value} (hc : ∀ args w, (callFunc f args).run P w = .ok (.enter f args) w) (hD : DeferP P f cap A A')
    (hs : Split L A Lx) (hr : Rsl P fn e (A' ++ Lx) v) (hR : R v L') (hs2 : Split (A' ++ Lx) L' L2) (hd : Drops L2 Lf) : PanD P fn R Lf [{ v := .iface t x, recovered := false }] e [{ target := .fn (.func f) cap, args := #[] }] L :=
  ⟨t, x, f, cap, A, A', Lx, v, L', rfl, rfl, hc, hD, hs.ent, hr, hR, hs2.ent.trans (hd.app L')⟩
theorem FinD.mk {fn : Func} {R : Value → List Res → Prop} {Lf A Lx L' L2 : List Res} {f : FuncId} {cap : Array Value} {v : Value} (hc : ∀ args w, (callFunc f args).run P w = .ok (.enter f args) w) (hD : DeferR P f cap A)
    (hs : Split L A Lx) (hr : Rsl P fn e (A ++ Lx) v) (hR : R v L') (hs2 : Split (A ++ Lx) L' L2) (hd : Drops L2 Lf) : FinD P fn R Lf e [{ target := .fn (.func f) cap, args := #[] }] L :=
  ⟨f, cap, A, Lx, v, L', rfl, hc, hD, hs.ent, hr, hR, hs2.ent.trans (hd.app L')⟩
theorem FnC.goD {f : FuncId} {fn : Func} {m : Nat} {c : Code} {args : List Value} {R : Value → List Res → Prop} (hf : P.funcs[f]? = some fn) (hn : fn.ntmps = m) (hb : fn.body = some c) (hl : args.length ≤ m)
  (h : ∀ Lf, W2 P none m c (FinD P fn R Lf) (exD P fn R Lf) (env0 0 args) [] (L ++ Lf)) : FnC P f args.toArray L R := fun Lf κ w hs => by
 subst hn
 refine callsIn_of_wp_marks hf hb trivial ?_
 refine wpIn_mono (h Lf κ w _ (has_enter hl) hs) fun ex a' w' q => ?_
 have fin : ∀ e ds L', Has fn.ntmps ds e a' → St κ L' w' → FinD P fn R Lf e ds L' →
   LeavesInM Fence.wide 0 P fn a'.tmps (fun e w' => ∃ v L', e = .returned v ∧ R v L' ∧ St κ (L' ++ Lf) w') a'.defers .returning w' := by
  rintro e ds L1 ha hst ⟨g, cap, A, Lx, v, L', rfl, hc, hD, hE, hR, hr, hE2⟩
  rw [ha.2.1]
  refine ⟨by simp, .inr ⟨fun h => by simp [Fence.wide] at h, .func g, cap, g, cap, rfl, by simp [invoke, hc], fun _ _ => trivial, ?_⟩⟩
  ·have := hD Lx κ w' (hE κ w' hst)
   refine CallsDIn.mono this fun e' u' w'' ⟨⟨v', he⟩, hu, hs''⟩ => ?_
   subst he hu
   exact ⟨v, hR _ _ κ a' w'' ha hs'', v, L', rfl, hr, hE2 κ w'' hs''⟩
 cases ex with
 | normal => obtain ⟨e', ds', L', h1, h2, h3⟩ := q; exact fin _ _ _ h1 h2 h3
 | ret => obtain ⟨e', ds', L', h1, h2, h3⟩ := q; exact fin _ _ _ h1 h2 h3
 | exit j => obtain ⟨e', ds', L', h1, h2, h3⟩ := q; exact h3.elim
 | goto j => obtain ⟨e', ds', L', h1, h2, h3⟩ := q; exact h3.elim
 | panic ch =>
  obtain ⟨e', ds', L1, ha, hst, t, x, g, cap, A, A', Lx, v, L', hch, hds, hc, hD, hE, hR, hr, hE2⟩ := q
  subst hch hds
  show LeavesInM _ _ _ _ _ _ a'.defers _ _
  rw [ha.2.1]
  refine ⟨by simp, .inr ⟨fun h => by simp [Fence.wide] at h, .func g, cap, g, cap, rfl, by simp [invoke, hc], fun _ _ => trivial, ?_⟩⟩
  ·have := hD t x Lx κ w' (hE κ w' hst)
   refine CallsDIn.mono this fun e' u' w'' ⟨⟨v', he⟩, hu, hs''⟩ => ?_
   subst he hu
   exact ⟨v, hR _ _ κ a' w'' ha hs'', v, L', rfl, hr, hE2 κ w'' hs''⟩
 | outgrown => exact q.elim

end
end Go.Yb
