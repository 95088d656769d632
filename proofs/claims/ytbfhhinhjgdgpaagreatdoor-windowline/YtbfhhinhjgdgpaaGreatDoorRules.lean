/-
  A part of the proof of windowLine_holds: see the text that holds it. No conditions of its own.
-/
import Derived.Test.YtbfhhinhjgdgpaaGreatDoorBase
namespace Go.Yb
open Go Go.RowKit

/-! ### The judgement -/

abbrev Fr (r : Option Nat) : Fence := { Fence.wide with round := r }

abbrev Post := Env → List Deferred → List Res → Prop

/-- what a walk's post says, of frame and world -/
def lift (κ : Strm) (n : Nat) (K : Post) (Q : Exit → Post) : Exit → Act → World → Prop
  | .normal, a, w => ∃ e ds L, Has n ds e a ∧ St κ L w ∧ K e ds L
  | .panic _, _, _ => False
  | .outgrown, _, _ => False
  | ex, a, w => ∃ e ds L, Has n ds e a ∧ St κ L w ∧ Q ex e ds L

def W (P : Program) (r : Option Nat) (n : Nat) (c : Code) (K : Post) (Q : Exit → Post) : Post := fun e ds L =>
  ∀ κ w a, Has n ds e a → St κ L w → c.wpIn (Fr r) 0 P (lift κ n K Q) a w

def OW (P : Program) (r : Option Nat) (n : Nat) (ops : Array Oper) (l : List Oper) (K : Post) (Q : Exit → Post) : Post := fun e ds L =>
  ∀ κ w a, Has n ds e a → St κ L w → wpListIn (Fr r) 0 P ops (lift κ n K Q) l a w

section
variable {P : Program} {r : Option Nat} {n : Nat} {K : Post} {Q : Exit → Post} {e : Env} {ds : List Deferred} {L : List Res}

theorem W.ent {c : Code} {L' : List Res} (h : Ent L L') (k : W P r n c K Q e ds L') : W P r n c K Q e ds L := fun κ w a ha hs => k κ w a ha (h κ w hs)
theorem W.le {c : Code} {e' : Env} (h : Le e' e) (k : W P r n c K Q e' ds L) : W P r n c K Q e ds L := fun κ w a ha hs => k κ w a (ha.le h) hs
theorem OW.ent {ops : Array Oper} {l : List Oper} {L' : List Res} (h : Ent L L') (k : OW P r n ops l K Q e ds L') : OW P r n ops l K Q e ds L := fun κ w a ha hs => k κ w a ha (h κ w hs)

theorem W.seq {x y : Code} (h : W P r n x (W P r n y K Q) Q e ds L) : W P r n (.seq x y) K Q e ds L := fun κ w a ha hs =>
  wpIn_seq (wpIn_mono (h κ w a ha hs) fun ex a' w' q => by
    cases ex with
    | normal => obtain ⟨e', ds', L', h1, h2, h3⟩ := q; exact h3 κ w' a' h1 h2
    | _ => exact q)

theorem W.skip (h : K e ds L) : W P r n .skip K Q e ds L := fun _ _ _ ha hs => wpIn_skip ⟨_, _, _, ha, hs, h⟩
theorem W.label {l : Nat} (h : K e ds L) : W P r n (.label l) K Q e ds L := fun _ _ _ ha hs => wpIn_label ⟨_, _, _, ha, hs, h⟩
theorem W.ret (h : Q .ret e ds L) : W P r n .ret K Q e ds L := fun _ _ _ ha hs => wpIn_ret ⟨_, _, _, ha, hs, h⟩
theorem W.exit {id : Nat} (h : Q (.exit id) e ds L) : W P r n (.exit id) K Q e ds L := fun _ _ _ ha hs => wpIn_exit ⟨_, _, _, ha, hs, h⟩
theorem W.goto {id : Nat} (h : Q (.goto id) e ds L) : W P r n (.goto id) K Q e ds L := fun _ _ _ ha hs => wpIn_goto ⟨_, _, _, ha, hs, h⟩

theorem W.cond {c : Operand} {x y : Code} {t : Bool} (hc : Env.ev e c = some (.bool t)) (h1 : t = true → W P r n x K Q e ds L) (h2 : t = false → W P r n y K Q e ds L) :
    W P r n (.cond c x y) K Q e ds L := fun κ w a ha hs => by
  refine wpIn_cond (t := t) (ha.eval hc) ?_
  cases t with
  | true => exact h1 rfl κ w a ha hs
  | false => exact h2 rfl κ w a ha hs
theorem W.cond_true {c : Operand} {x y : Code} (hc : Env.ev e c = some (.bool true)) (h : W P r n x K Q e ds L) : W P r n (.cond c x y) K Q e ds L :=
  W.cond hc (fun _ => h) (fun h => by cases h)
theorem W.cond_false {c : Operand} {x y : Code} (hc : Env.ev e c = some (.bool false)) (h : W P r n y K Q e ds L) : W P r n (.cond c x y) K Q e ds L :=
  W.cond hc (fun h => by cases h) (fun _ => h)

/-- exits out of a block are caught -/
def catchQ (id : Nat) (K : Post) (Q : Exit → Post) : Exit → Post
  | .exit j => cond (Nat.beq j id) K (Q (.exit j))
  | ex => Q ex

theorem W.block {id : Nat} {c : Code} (h : W P r n c K (catchQ id K Q) e ds L) : W P r n (.block id c) K Q e ds L := fun κ w a ha hs =>
  wpIn_block (wpIn_mono (h κ w a ha hs) fun ex a' w' q => by
    cases ex with
    | exit j =>
      obtain ⟨e', ds', L', h1, h2, h3⟩ := q
      simp only [Exit.inBlock]
      simp only [catchQ] at h3
      by_cases hj : j = id
      · subst hj
        rw [if_pos rfl]
        rw [show Nat.beq j j = true from Nat.beq_refl j] at h3
        exact ⟨e', ds', L', h1, h2, h3⟩
      · rw [if_neg hj]
        rw [show Nat.beq j id = false from by cases hq : Nat.beq j id with | true => exact absurd (Nat.eq_of_beq_eq_true hq) hj | false => rfl] at h3
        exact ⟨e', ds', L', h1, h2, h3⟩
    | _ => exact q)

/-- a loop by an invariant over a ghost -/
theorem W.loop {c : Code} {X : Type} (E : X → Env) (D : X → List Deferred) (R : X → List Res) (μ : X → Nat) (x0 : X)
  (h0 : Le (E x0) e ∧ D x0 = ds ∧ Ent L (R x0))
  (round : ∀ x, W P r n c (fun e' ds' L' => ∃ x', Le (E x') e' ∧ D x' = ds' ∧ Ent L' (R x') ∧ μ x' < μ x) Q (E x) (D x) (R x)) :
  W P r n (.loop c) K Q e ds L := fun κ w a ha hs => by
 intro b k cs hro hb hr
 have key : ∀ j x a w, μ x = j → Has n (D x) (E x) a → St κ (R x) w →
   ∃ ex a' w', lift κ n K Q ex a' w' ∧ ArrivesIn (Machine.fenced P (Fr r)) P (lone (b.atR a (.code c :: .inLoop c :: k)) cs w) b k cs ex a' w' := by
  intro j
  induction j using Nat.strongRecOn with
  | _ j ih =>
   intro x a w hn hI hS
   obtain ⟨ex, a₁, w₁, hq, harr⟩ := round x κ w a hI hS b (.inLoop c :: k) cs hro hb hr
   cases ex with
   | normal =>
    obtain ⟨e', ds', L', h1, h2, x', h3, h4, h5, h6⟩ := hq
    obtain ⟨e₂, a₂, w₂, hq₂, harr₂⟩ := ih (μ x') (hn ▸ h6) x' a₁ w₁ rfl (h4 ▸ h1.le h3) (h5 κ w₁ h2)
    exact ⟨e₂, a₂, w₂, hq₂, .of_steps (StepsIn.trans harr (.one (fenced_calm hb hr rfl) stepR_inLoop)) harr₂⟩
   | exit id => exact ⟨.exit id, a₁, w₁, hq, .pass (x := .inLoop c) rfl (fun _ _ => .inl (by simp)) harr⟩
   | goto l => exact ⟨.goto l, a₁, w₁, hq, .pass (x := .inLoop c) rfl (fun _ _ => .inl (by simp)) harr⟩
   | ret => exact ⟨.ret, a₁, w₁, hq, .pass (x := .inLoop c) rfl (fun _ _ => .inl (by simp)) harr⟩
   | panic ch => exact hq.elim
   | outgrown => exact hq.elim
 obtain ⟨h1, h2, h3⟩ := h0
 obtain ⟨ex, a', w', hq, harr⟩ := key _ x0 a w rfl (h2 ▸ ha.le h1) (h3 κ w hs)
 exact ⟨ex, a', w', hq, .of_steps (.one (fenced_calm hb hr rfl) stepR_loop) harr⟩

/-- what holds behind a piece of code, said in fewer words -/
theorem W.cut {c : Code} (K' : Post) (h : W P r n c K' Q e ds L) (hk : ∀ e ds L, K' e ds L → K e ds L) : W P r n c K Q e ds L := fun κ w a ha hs =>
  wpIn_mono (h κ w a ha hs) fun ex a' w' q => by
    cases ex with
    | normal => obtain ⟨e', ds', L', h1, h2, h3⟩ := q; exact ⟨e', ds', L', h1, h2, hk _ _ _ h3⟩
    | _ => exact q

/-- a continuation that begins with less -/
theorem W.of_le {y : Code} {e' : Env} {L' : List Res} (hl : Le e' e) (hL : Ent L L') (h : W P r n y K Q e' ds L') : W P r n y K Q e ds L := (h.le hl).ent hL

/-! ### Regions -/

theorem W.region {id : Nat} {l : List Oper} (h : OW P r n l.toArray l K Q e ds L) : W P r n (.region id l.toArray false) K Q e ds L := fun κ w a ha hs => wpIn_region_lit (h κ w a ha hs)

theorem OW.nil {ops : Array Oper} (h : K e ds L) : OW P r n ops [] K Q e ds L := fun _ _ _ ha hs => ⟨_, _, _, ha, hs, h⟩

/-- is the operation carried out? -/
def Wn (ops : Array Oper) (e : Env) (o : Oper) (b : Bool) : Prop :=
  ∀ n ds a, Has n ds e a → Region.wanted o (yielded ops a.tmps) = b

theorem Wn.plain {ops : Array Oper} {o : Oper} (h : o.guard = none) : Wn ops e o true := fun _ _ _ _ => by simp [Region.wanted, h]
theorem Wn.guard {ops : Array Oper} {o : Oper} {j : Nat} {t : Nat} {g c : Bool} (h : o.guard = some (j, g)) (ht : (ops[j]?).bind (·.dst) = some t) (hc : Env.get e t = some (.bool c)) :
    Wn ops e o (c == g) := fun _ _ a ha => by
  have := ha.2.2 t _ hc
  simp only [Region.wanted, h, yielded, ht, Option.bind_some, this]
  cases c <;> cases g <;> rfl
theorem Wn.run {ops : Array Oper} {o : Oper} {j : Nat} {t : Nat} {g c : Bool} (h : o.guard = some (j, g)) (ht : (ops[j]?).bind (·.dst) = some t) (hc : Env.get e t = some (.bool c)) (hg : c = g) : Wn ops e o true := by
 have := Wn.guard h ht hc
 rw [hg] at this
 simpa using this
theorem Wn.not {ops : Array Oper} {o : Oper} {j : Nat} {t : Nat} {g c : Bool} (h : o.guard = some (j, g)) (ht : (ops[j]?).bind (·.dst) = some t) (hc : Env.get e t = some (.bool c)) (hg : c = !g) : Wn ops e o false := by
 have := Wn.guard h ht hc
 rw [hg] at this
 simpa using this

theorem Wn.nob {ops : Array Oper} {o : Oper} {j : Nat} {t : Nat} {g : Bool} (h : o.guard = some (j, g)) (ht : (ops[j]?).bind (·.dst) = some t) (hc : Env.get e t = some undef) : Wn ops e o false := fun _ _ a ha => by
  have := ha.2.2 t _ hc
  simp [Region.wanted, h, yielded, ht, Option.bind_some, this, undef]

/-- the operation yields v, and nothing turns -/
def Yl (P : Program) (e : Env) (L : List Res) (o : Oper) (v : Value) : Prop :=
  (∀ c, o.op ≠ .defer c) ∧ ∀ n ds κ a w, Has n ds e a → St κ L w → (execOp a.eval o).run P w = .ok (.value v) w

/-- the operation goes through and leaves a value and memory of which T tells -/
def Ex (P : Program) (r : Option Nat) (e : Env) (L : List Res) (o : Oper) (T : Value → List Res → Prop) : Prop :=
  ∀ n ds κ a w (next : Act → World → Prop) (Q : Exit → Act → World → Prop), Has n ds e a → St κ L w →
    (∀ v L' w', T v L' → St κ L' w' → next (a.put o.dst v) w') → o.wpIn (Fr r) 0 P a w next Q

theorem Yl.ex {o : Oper} {v : Value} (h : Yl P e L o v) : Ex P r e L o (fun v' L' => v' = v ∧ L' = L) := fun n ds κ a w next Q ha hs hk => by
  refine ⟨fun _ _ => trivial, ?_⟩
  rw [Oper.semAt_eq _ _ _ h.1, h.2 n ds κ a w ha hs]
  exact hk v L w ⟨rfl, rfl⟩ hs

theorem OW.ex {ops : Array Oper} {o : Oper} {l : List Oper} {T : Value → List Res → Prop} (hw : Wn ops e o true) (hd : dstOk n o.dst = true) (h : Ex P r e L o T)
    (k : ∀ v L', T v L' → OW P r n ops l K Q (Env.put e o.dst v) ds L') : OW P r n ops (o :: l) K Q e ds L := fun κ w a ha hs => by
  unfold wpListIn
  rw [if_pos (hw n ds a ha)]
  exact h n ds κ a w _ _ ha hs fun v L' w' ht hs' => k v L' ht κ w' _ (ha.put hd v) hs'

theorem OW.yl {ops : Array Oper} {d : Option Tmp} {op : Op} {ty : TypeId} {pos : String} {af : Array Edge} {g : Option (Nat × Bool)} {l : List Oper} {v : Value} (hw : Wn ops e ⟨d, op, ty, pos, af, g⟩ true) (hd : dstOk n d = true) (h : Yl P e L ⟨d, op, ty, pos, af, g⟩ v)
    (k : OW P r n ops l K Q (Env.put e d v) ds L) : OW P r n ops (⟨d, op, ty, pos, af, g⟩ :: l) K Q e ds L :=
  OW.ex hw hd h.ex fun v' L' ⟨h1, h2⟩ => by subst h1 h2; exact k

theorem OW.not {ops : Array Oper} {d : Option Tmp} {op : Op} {ty : TypeId} {pos : String} {af : Array Edge} {g : Option (Nat × Bool)} {l : List Oper} (hw : Wn ops e ⟨d, op, ty, pos, af, g⟩ false) (hd : dstOk n d = true)
    (k : OW P r n ops l K Q (Env.put e d undef) ds L) : OW P r n ops (⟨d, op, ty, pos, af, g⟩ :: l) K Q e ds L := fun κ w a ha hs => by
  unfold wpListIn
  rw [if_neg (by rw [hw n ds a ha]; simp)]
  exact ⟨fun _ _ => trivial, k κ w _ (ha.put hd undef) hs⟩

/-! ### Calls -/

/-- what a call of a function value comes to -/
def CallV (P : Program) (fv : Value) (args : Array Value) (w : World) (R : Ending → World → Prop) : Prop :=
  ∃ d w1 nx w2, (Deferred.ofValue fv args).run P w = .ok d w1 ∧ (invoke d.target d.args).run P w1 = .ok nx w2 ∧
    match nx with
    | .value v => R (.returned v) w2
    | .enter f args' => CallsIn Fence.wide 0 P f args' w2 R
    | .round l fn tmps assign body => RoundIn Fence.wide 0 P l fn tmps assign body w2 R
    | _ => False

/-- THE CONTRACT OF A CALL: with the resources L at hand (and whatever others), it returns v and leaves L', of which R tells. -/
def Tri (P : Program) (fv : Value) (args : Array Value) (L : List Res) (R : Value → List Res → Prop) : Prop :=
  ∀ Lf κ w, St κ (L ++ Lf) w → CallV P fv args w (fun e w' => ∃ v L', e = .returned v ∧ R v L' ∧ St κ (L' ++ Lf) w')

/-- THE CONTRACT OF A FUNCTION -/
def FnC (P : Program) (f : FuncId) (args : Array Value) (L : List Res) (R : Value → List Res → Prop) : Prop :=
  ∀ Lf κ w, St κ (L ++ Lf) w → CallsIn Fence.wide 0 P f args w (fun e w' => ∃ v L', e = .returned v ∧ R v L' ∧ St κ (L' ++ Lf) w')

theorem FnC.mono {f : FuncId} {args : Array Value} {R R' : Value → List Res → Prop} (h : FnC P f args L R) (hr : ∀ v L', R v L' → R' v L') : FnC P f args L R' := fun Lf κ w hs =>
  (h Lf κ w hs).mono fun _ _ ⟨v, L', h1, h2, h3⟩ => ⟨v, L', h1, hr _ _ h2, h3⟩

theorem Tri.mono {fv : Value} {args : Array Value} {R R' : Value → List Res → Prop} (h : Tri P fv args L R) (hr : ∀ v L', R v L' → R' v L') : Tri P fv args L R' := fun Lf κ w hs => by
  obtain ⟨d, w1, nx, w2, h1, h2, h3⟩ := h Lf κ w hs
  refine ⟨d, w1, nx, w2, h1, h2, ?_⟩
  cases nx with
  | value v => obtain ⟨v', L', a, b, c⟩ := h3; exact ⟨v', L', a, hr _ _ b, c⟩
  | enter f args' => exact CallsIn.mono h3 fun _ _ ⟨v, L', a, b, c⟩ => ⟨v, L', a, hr _ _ b, c⟩
  | round l fn tmps assign body => exact RoundIn.mono h3 fun _ _ ⟨v, L', a, b, c⟩ => ⟨v, L', a, hr _ _ b, c⟩
  | _ => exact h3

/-- a call with more at hand -/
theorem Tri.frame {fv : Value} {args : Array Value} {R : Value → List Res → Prop} {A L2 : List Res} (h : Tri P fv args L R) (hs : Split A L L2) :
  Tri P fv args A (fun v L' => ∃ L1, R v L1 ∧ L' = L1 ++ L2) := fun Lf κ w hst => by
 have : St κ (L ++ (L2 ++ Lf)) w := by
  obtain ⟨D, hD, hp⟩ := hs.perm
  have h1 : Ent (A ++ Lf) (D ++ (A ++ Lf)) := Ent.dups D fun q hq => ⟨(hD q hq).1, List.mem_append_left _ (hD q hq).2⟩
  have h2 : (D ++ (A ++ Lf)).Perm (L ++ (L2 ++ Lf)) := by
   rw [← List.append_assoc, ← List.append_assoc]
   exact (hp.symm).append_right Lf
  exact Ent.perm h2 κ w (h1 κ w hst)
 obtain ⟨d, w1, nx, w2, h1, h2, h3⟩ := h (L2 ++ Lf) κ w this
 refine ⟨d, w1, nx, w2, h1, h2, ?_⟩
 cases nx with
 | value v => obtain ⟨v', L', a, b, c⟩ := h3; exact ⟨v', _, a, ⟨L', b, rfl⟩, by rw [List.append_assoc]; exact c⟩
 | enter f args' => exact CallsIn.mono h3 fun _ _ ⟨v, L', a, b, c⟩ => ⟨v, _, a, ⟨L', b, rfl⟩, by rw [List.append_assoc]; exact c⟩
 | round l fn tmps assign body => exact RoundIn.mono h3 fun _ _ ⟨v, L', a, b, c⟩ => ⟨v, _, a, ⟨L', b, rfl⟩, by rw [List.append_assoc]; exact c⟩
 | _ => exact h3

/-- the operation 'call' of a function value -/
theorem Ex.call {o : Oper} {fo : Operand} {args : Array Operand} {ats : Array TypeId} {fv : Value} {vs : List Value} {L1 L2 : List Res} {R : Value → List Res → Prop}
  (ho : o.op = .call { callee := .value fo, args := args, argTypes := ats }) (hf : Env.ev e fo = some fv) (ha : Env.evs e args.toList = some vs)
  (h : Tri P fv vs.toArray L1 R) (hs : Split L L1 L2) : Ex P r e L o (fun v L' => ∃ L1', R v L1' ∧ L' = L1' ++ L2) := fun n ds κ a w next Q hh hst hk => by
 refine ⟨fun _ _ => trivial, ?_⟩
 obtain ⟨d, w1, nx, w2, h1, h2, h3⟩ := h L2 κ w (hs.ent κ w hst)
 have hargs : args.map a.eval = vs.toArray := by
  rw [← hh.evals ha, ← Array.toList_map]
 have hex : (execOp a.eval o).run P w = .ok nx w2 := by
  simp only [execOp, ho, Sem.run_bind, resolve, hargs, hh.eval hf, h1, Result.andThen_ok, h2]
 rw [Oper.semAt_eq _ _ _ (by rw [ho]; simp), hex]
 cases nx with
 | value v => obtain ⟨v', L', rfl', b, c⟩ := h3; cases rfl'; exact hk _ _ _ ⟨_, b, rfl⟩ c
 | enter f args' =>
  refine ⟨fun h => by simp [Fence.wide] at h, trivial, ?_⟩
  intro cs hroom
  obtain ⟨e', w', fr, hR, hc, hx⟩ := h3.2 cs hroom
  obtain ⟨v', L', rfl', b, c⟩ := hR
  cases rfl'
  exact ⟨.returned v', w', fr, hk _ _ _ ⟨_, b, rfl⟩ c, hc, hx⟩
 | round l fn tmps assign body =>
  refine ⟨fun h => by simp [Fence.wide] at h, trivial, ?_⟩
  intro c cs hroom
  obtain ⟨e', w', hR, hc⟩ := h3.2 c cs hroom
  obtain ⟨v', L', rfl', b, c'⟩ := hR
  cases rfl'
  exact ⟨.returned v', w', hk _ _ _ ⟨_, b, rfl⟩ c', hc⟩
 | _ => exact h3.elim

/-! ### A function from its body -/

/-- the values that the frame holds for the results -/
def Rsl (P : Program) (fn : Func) (e : Env) (L : List Res) (v : Value) : Prop := ∀ n ds κ a w, Has n ds e a → St κ L w → (results fn a.tmps).run P w = .ok v w

theorem Rsl.none {fn : Func} (h : fn.results = #[]) : Rsl P fn e L (.tuple #[]) := fun _ _ _ _ _ _ _ => by simp [results, h]
theorem Rsl.one {fn : Func} {t : Tmp} {v : Value} (h : fn.results = #[.tmp t]) (hv : Env.get e t = some v) : Rsl P fn e L v := fun _ _ _ a w ha _ => by
  have := ha.2.2 t v hv
  simp [results, h, this]
theorem Rsl.two {fn : Func} {t u : Tmp} {v v' : Value} (h : fn.results = #[.tmp t, .tmp u]) (hv : Env.get e t = some v) (hv' : Env.get e u = some v') : Rsl P fn e L (.tuple #[v, v']) := fun _ _ _ a w ha _ => by
  have h1 := ha.2.2 t v hv
  have h2 := ha.2.2 u v' hv'
  simp [results, h, h1, h2]
theorem Rsl.three {fn : Func} {t u s : Tmp} {v v' v'' : Value} (h : fn.results = #[.tmp t, .tmp u, .tmp s]) (hv : Env.get e t = some v) (hv' : Env.get e u = some v') (hv'' : Env.get e s = some v'') :
    Rsl P fn e L (.tuple #[v, v', v'']) := fun _ _ _ a w ha _ => by
  have h1 := ha.2.2 t v hv
  have h2 := ha.2.2 u v' hv'
  have h3 := ha.2.2 s v'' hv''
  simp [results, h, h1, h2, h3]

/-- the marks of ranges over functions, as deferred calls -/
def marks (D : List Nat) : List Deferred := D.map fun b => { target := .collected b, args := #[] }

/-- what a body must come to -/
def Fin (P : Program) (fn : Func) (R : Value → List Res → Prop) (Lf : List Res) : Post := fun e ds L =>
  ∃ D v L' Lx, ds = marks D ∧ Ent L (D.map (fun b => Res.obj b (.deferred (some []))) ++ Lx) ∧ Rsl P fn e Lx v ∧ R v L' ∧ Ent Lx (L' ++ Lf)

def env0 : Nat → List Value → Env
  | _, [] => []
  | i, v :: vs => (i, v) :: env0 (i + 1) vs

theorem env0_get : ∀ (vs : List Value) (i t : Nat) (v : Value), Env.get (env0 i vs) t = some v → i ≤ t ∧ vs[t - i]? = some v
  | [], i, t, v, h => by simp [env0, Env.get] at h
  | u :: vs, i, t, v, h => by
    simp only [env0, Env.get] at h
    cases hb : Nat.beq i t with
    | true =>
      have : i = t := Nat.eq_of_beq_eq_true hb
      subst this
      rw [hb] at h
      simp only [cond_true, Option.some.injEq] at h
      subst h; simp
    | false =>
      have hne : i ≠ t := Nat.ne_of_beq_eq_false hb
      rw [hb] at h
      obtain ⟨h1, h2⟩ := env0_get vs (i + 1) t v h
      refine ⟨by omega, ?_⟩
      rw [show t - i = (t - (i + 1)) + 1 from by omega]
      simpa using h2

theorem leaves_marks {fn : Func} {tmps : Array Value} {R : Ending → World → Prop} : ∀ (D : List Nat) (w : World) (κ : Strm) (L : List Res), St κ (D.map (fun b => Res.obj b (.deferred (some []))) ++ L) w →
  (∀ w', St κ L w' → ∃ v, (results fn tmps).run P w' = .ok v w' ∧ R (.returned v) w') → LeavesInM Fence.wide 0 P fn tmps R (marks D) .returning w
 | [], w, κ, L, hs, h => h w hs
 | b :: D, w, κ, L, hs, h => by
  refine ⟨by simp, .inl ⟨b, { w with heap := w.heap.setIfInBounds b (.deferred none) }, rfl, ?_, ?_⟩⟩
  ·obtain ⟨_, I, _, h2, _, _⟩ := hs
   have hb : w.heap[b]? = some (.deferred (some [])) := h2 (.obj b _) (by simp)
   simp [Instr.takeDeferred, getObj, setObj, Sem.run, Sem.bind, bind, hb, pure]
  ·refine leaves_marks D _ κ L ?_ h
   refine Ent.drop (.obj b (.deferred none)) _ _ _ ?_
   have hb : w.heap[b]? = some (.deferred (some [])) := by
    obtain ⟨_, I, _, h2, _, _⟩ := hs
    exact h2 (.obj b _) (by simp)
   refine St.write (r := .obj b (.deferred (some []))) (b := b) hs rfl rfl ⟨rfl, rfl, rfl⟩ (by simp) (fun k hk => ?_) (fun I _ => ?_)
   ·simp [Array.getElem?_setIfInBounds_ne (Ne.symm hk)]
   ·show (w.heap.setIfInBounds b (.deferred none))[b]? = _
    have := (Array.getElem?_eq_some_iff.1 hb).1
    simp [this]

theorem FnC.enter {f : FuncId} {fn : Func} {c : Code} {args : List Value} {R : Value → List Res → Prop} (hf : P.funcs[f]? = some fn) (hb : fn.body = some c) (hn : args.length ≤ fn.ntmps)
  (h : ∀ Lf, W P none fn.ntmps c (Fin P fn R Lf) (fun ex => match ex with | .ret => Fin P fn R Lf | _ => fun _ _ _ => False) (env0 0 args) [] (L ++ Lf)) : FnC P f args.toArray L R := fun Lf κ w hs => by
 refine callsIn_of_wp_marks hf hb trivial ?_
 have hh : Has fn.ntmps [] (env0 0 args) { tmps := args.toArray ++ Array.replicate (fn.ntmps - args.toArray.size) undef, defers := [] } := by
  refine ⟨by simp; omega, rfl, fun t v ht => ?_⟩
  obtain ⟨_, h2⟩ := env0_get args 0 t v ht
  have hlt : t < args.length := by simpa using (List.getElem?_eq_some_iff.1 h2).1
  simp only [Nat.sub_zero] at h2
  rw [Array.getElem?_append_left (by simpa using hlt)]
  simpa using h2
 refine wpIn_mono (h Lf κ w _ hh hs) fun ex a' w' q => ?_
 have fin : ∀ e ds L', Has fn.ntmps ds e a' → St κ L' w' → Fin P fn R Lf e ds L' →
   LeavesInM Fence.wide 0 P fn a'.tmps (fun e w' => ∃ v L', e = .returned v ∧ R v L' ∧ St κ (L' ++ Lf) w') a'.defers .returning w' := by
  rintro e ds L1 ha hst ⟨D, v, L', Lx, rfl, hE, hR, hr, hE2⟩
  rw [ha.2.1]
  exact leaves_marks D w' κ Lx (hE κ w' hst) fun w'' hs'' => ⟨v, hR _ _ κ a' w'' ha hs'', v, L', rfl, hr, hE2 κ w'' hs''⟩
 cases ex with
 | normal => obtain ⟨e', ds', L', h1, h2, h3⟩ := q; exact fin _ _ _ h1 h2 h3
 | ret => obtain ⟨e', ds', L', h1, h2, h3⟩ := q; exact fin _ _ _ h1 h2 h3
 | exit j => obtain ⟨e', ds', L', h1, h2, h3⟩ := q; exact h3.elim
 | goto j => obtain ⟨e', ds', L', h1, h2, h3⟩ := q; exact h3.elim
 | panic ch => exact q.elim
 | outgrown => exact q.elim

end
/-! short names for the commonest steps -/
section
variable {P : Program} {r : Option Nat} {n : Nat} {K : Post} {Q : Exit → Post} {e : Env} {ds : List Deferred} {L : List Res}
theorem Oy {ops : Array Oper} {d : Option Tmp} {op : Op} {ty : TypeId} {pos : String} {af : Array Edge} {l : List Oper} {v : Value} (hd : dstOk n d = true) (h : Yl P e L ⟨d, op, ty, pos, af, none⟩ v)
    (k : OW P r n ops l K Q (Env.put e d v) ds L) : OW P r n ops (⟨d, op, ty, pos, af, none⟩ :: l) K Q e ds L := OW.yl (Wn.plain rfl) hd h k
theorem Wr {id : Nat} {l : List Oper} {y : Code} (h : OW P r n l.toArray l (W P r n y K Q) Q e ds L) : W P r n (.seq (.region id l.toArray false) y) K Q e ds L := W.seq (W.region h)
end
end Go.Yb
