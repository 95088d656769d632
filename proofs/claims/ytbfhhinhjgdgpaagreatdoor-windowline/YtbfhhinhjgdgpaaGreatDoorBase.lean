/-
  A part of the proof of windowLine_holds: see the text that holds it. No conditions of its own.
-/
import Derived.OrdersIn
import Derived.TacticsIn
import Derived.RangeFuncLeaves
import Derived.Laws.AppendOwn
import Derived.Laws.Slices
import Derived.Laws.Build
import Derived.Below
/-
  A small logic of our own over the kit's fenced wp: frames as short lists of slots, memory as a list of separate resources.
-/
namespace Go.Yb
open Go Go.RowKit

/-! ### Environments -/

abbrev Env := List (Nat × Value)

def Env.get : List (Nat × Value) → Nat → Option Value
  | [], _ => none
  | (i, v) :: e, j => cond (Nat.beq i j) (some v) (Env.get e j)

def Env.ev (e : Env) : Operand → Option Value
  | .tmp t => Env.get e t
  | .const v => some v
  | .global g => some (.pointer (some ⟨g, 0, none⟩))
  | .func f => some (.func (.func f) #[] #[])

def Env.evs (e : Env) : List Operand → Option (List Value)
  | [] => some []
  | x :: xs => match Env.ev e x, Env.evs e xs with
    | some v, some vs => some (v :: vs)
    | _, _ => none

def Env.put (e : Env) : Option Tmp → Value → Env
  | some d, v => (d, v) :: e
  | none, _ => e

/-- The frame holds what the environment says. -/
def Has (n : Nat) (ds : List Deferred) (e : Env) (a : Act) : Prop :=
  a.tmps.size = n ∧ a.defers = ds ∧ ∀ t v, Env.get e t = some v → a.tmps[t]? = some v

def dstOk (n : Nat) : Option Tmp → Bool
  | some d => Nat.blt d n
  | none => true

theorem Has.put {n : Nat} {ds : List Deferred} {e : Env} {a : Act} (h : Has n ds e a) {d : Option Tmp} (hd : dstOk n d = true) (v : Value) :
  Has n ds (Env.put e d v) (a.put d v) := by
 obtain ⟨h1, h2, h3⟩ := h
 cases d with
 | none => exact ⟨h1, h2, h3⟩
 | some d =>
  have hlt : d < a.tmps.size := by
   have h0 : d < n := by
    have h1 : Nat.blt d n = true := hd
    rwa [Nat.blt_eq] at h1
   rw [h1]; exact h0
  refine ⟨by simp [Act.put, h1], h2, fun t u hu => ?_⟩
  simp only [Env.put, Env.get] at hu
  simp only [Act.put]
  cases hb : Nat.beq d t with
  | true =>
   have : d = t := Nat.eq_of_beq_eq_true hb
   subst this
   rw [hb] at hu
   simp only [cond_true, Option.some.injEq] at hu
   subst hu
   simp [hlt]
  | false =>
   have hne : d ≠ t := Nat.ne_of_beq_eq_false hb
   rw [hb] at hu
   simp only [cond_false] at hu
   rw [Array.getElem?_setIfInBounds_ne hne]
   exact h3 t u hu

theorem Has.eval {n : Nat} {ds : List Deferred} {e : Env} {a : Act} (h : Has n ds e a) {x : Operand} {v : Value} (hx : Env.ev e x = some v) : a.eval x = v := by
 cases x with
 | tmp t =>
  have := h.2.2 t v hx
  simp [Act.eval, Array.getD_eq_getD_getElem?, this]
 | const u => simpa [Env.ev, Act.eval] using hx
 | global g => simpa [Env.ev, Act.eval] using hx
 | func f => simpa [Env.ev, Act.eval] using hx

theorem Has.evals {n : Nat} {ds : List Deferred} {e : Env} {a : Act} (h : Has n ds e a) : ∀ {xs : List Operand} {vs : List Value}, Env.evs e xs = some vs → xs.map a.eval = vs
  | [], vs, hx => by simpa [Env.evs] using hx
  | x :: xs, vs, hx => by
    simp only [Env.evs] at hx
    cases h1 : Env.ev e x with
    | none => simp [h1] at hx
    | some v =>
      cases h2 : Env.evs e xs with
      | none => simp [h1, h2] at hx
      | some us =>
        simp only [h1, h2, Option.some.injEq] at hx
        subst hx
        simp [h.eval h1, h.evals h2]

/-- One environment says no more than another. -/
def Le (e' e : Env) : Prop := ∀ t v, Env.get e' t = some v → Env.get e t = some v
theorem Le.nil (e : Env) : Le [] e := fun t v h => by simp [Env.get] at h
theorem Le.cons {e' e : Env} {i : Nat} {v : Value} (h : Env.get e i = some v) (hl : Le e' e) : Le ((i, v) :: e') e := fun t u hu => by
  simp only [Env.get] at hu
  cases hb : Nat.beq i t with
  | true =>
    have : i = t := Nat.eq_of_beq_eq_true hb
    subst this
    rw [hb] at hu
    simp only [cond_true, Option.some.injEq] at hu
    subst hu; exact h
  | false => rw [hb] at hu; exact hl t u hu
theorem Le.refl (e : Env) : Le e e := fun _ _ h => h
theorem Has.le {n : Nat} {ds : List Deferred} {e e' : Env} {a : Act} (h : Has n ds e a) (hl : Le e' e) : Has n ds e' a := ⟨h.1, h.2.1, fun t v ht => h.2.2 t v (hl t v ht)⟩

/-! ### Memory as resources -/

abbrev Imm := Nat → Option Obj

inductive Res where
  /-- a block of our own, its cells known -/
  | cell (b : Nat) (vs : List Value) (T : TypeId)
  /-- an object of our own that is no row of cells -/
  | obj (b : Nat) (o : Obj)
  /-- a slice of our own that may be appended to: n elements of size sz, their cells xs -/
  | arr (v : Value) (E : TypeId) (sz n : Nat) (xs : List Value)
  /-- something that will stay so -/
  | imm (p : Imm → Prop)

def Res.fp : Res → List Nat
  | .cell b _ _ => [b]
  | .obj b _ => [b]
  | .arr v _ _ _ _ => v.ownBlock.toList
  | .imm _ => []

def Imm.le (I I' : Imm) : Prop := ∀ b o, I b = some o → I' b = some o

def Res.sat (I : Imm) (w : World) : Res → Prop
  | .cell b vs T => w.heap[b]? = some (.cells vs.toArray T (0, 0))
  | .obj b o => w.heap[b]? = some o
  | .arr v E sz n xs => w.ownsRow 0 E sz v n xs
  | .imm p => ∀ I', Imm.le I I' → p I'

structure Strm where
  os : Os
  output : Array (Nat × ByteArray)
  tape : Nat → Question → Nat

def fps (L : List Res) : List Nat := L.flatMap Res.fp

/-- The world is as the resources say. -/
def St (κ : Strm) (L : List Res) (w : World) : Prop :=
  (w.os = κ.os ∧ w.output = κ.output ∧ w.tape = κ.tape) ∧
  ∃ I : Imm, (∀ b o, I b = some o → w.heap[b]? = some o) ∧ (∀ r ∈ L, r.sat I w) ∧ (fps L).Nodup ∧ (∀ b ∈ fps L, I b = none ∧ b < w.heap.size)

def Ent (L L' : List Res) : Prop := ∀ κ w, St κ L w → St κ L' w
theorem Ent.refl (L : List Res) : Ent L L := fun _ _ h => h
theorem Ent.trans {A B C : List Res} (h : Ent A B) (h' : Ent B C) : Ent A C := fun κ w s => h' κ w (h κ w s)

theorem Ent.perm {L L' : List Res} (h : L.Perm L') : Ent L L' := by
 rintro κ w ⟨hs, I, h1, h2, h3, h4⟩
 have hp : (fps L).Perm (fps L') := h.flatMap_right Res.fp
 exact ⟨hs, I, h1, fun r hr => h2 r (h.mem_iff.2 hr), hp.nodup_iff.1 h3, fun b hb => h4 b (hp.mem_iff.2 hb)⟩

theorem Ent.drop (r : Res) (L : List Res) : Ent (r :: L) L := by
 rintro κ w ⟨hs, I, h1, h2, h3, h4⟩
 refine ⟨hs, I, h1, fun r hr => h2 r (List.mem_cons_of_mem _ hr), ?_, fun b hb => h4 b ?_⟩
 ·simp only [fps, List.flatMap_cons] at h3; exact (List.nodup_append.1 h3).2.1
 ·simp only [fps, List.flatMap_cons]; exact List.mem_append_right _ hb

inductive Pick (r : Res) : List Res → List Res → Prop
  | head {L : List Res} : Pick r (r :: L) L
  | tail {x : Res} {L L' : List Res} : Pick r L L' → Pick r (x :: L) (x :: L')

theorem Pick.perm {r : Res} {L L' : List Res} (h : Pick r L L') : L.Perm (r :: L') := by
 induction h with
 | head => exact .refl _
 | tail _ ih => exact (ih.cons _).trans (.swap _ _ _)
theorem Pick.ent {r : Res} {L L' : List Res} (h : Pick r L L') : Ent L (r :: L') := Ent.perm h.perm
/-- What will stay so may be said again. -/
theorem Ent.dup {p : Imm → Prop} {L : List Res} (h : Res.imm p ∈ L) : Ent L (.imm p :: L) := by
 rintro κ w ⟨hs, I, h1, h2, h3, h4⟩
 refine ⟨hs, I, h1, fun r hr => ?_, ?_, ?_⟩
 ·rcases List.mem_cons.1 hr with rfl | hr
  ·exact h2 _ h
  ·exact h2 _ hr
 ·simpa [fps, Res.fp] using h3
 ·simpa [fps, Res.fp] using h4

theorem Ent.imm {p q : Imm → Prop} {L : List Res} (h : Res.imm p ∈ L) (hpq : ∀ I, p I → q I) : Ent L (.imm q :: L) := by
 rintro κ w ⟨hs, I, h1, h2, h3, h4⟩
 refine ⟨hs, I, h1, fun r hr => ?_, ?_, ?_⟩
 ·rcases List.mem_cons.1 hr with rfl | hr
  ·exact fun I' hI => hpq _ (h2 _ h I' hI)
  ·exact h2 _ hr
 ·simpa [fps, Res.fp] using h3
 ·simpa [fps, Res.fp] using h4

/-- L is A, then B, then C -/
inductive IsApp (B C : List Res) : List Res → List Res → Prop
  | nil : IsApp B C [] (B ++ C)
  | cons {r : Res} {A L : List Res} : IsApp B C A L → IsApp B C (r :: A) (r :: L)
theorem IsApp.eq {A B C L : List Res} (h : IsApp B C A L) : L = A ++ (B ++ C) := by
 induction h with
 | nil => rfl
 | cons _ ih => rw [ih]; rfl
/-- L splits into L1 (what is lent) and L2 (what is kept); what will stay so is in both. -/
inductive Split : List Res → List Res → List Res → Prop
  | nil {L : List Res} : Split L [] L
  | keep {p : Imm → Prop} {L L1 L2 : List Res} : Res.imm p ∈ L → Split L L1 L2 → Split L (.imm p :: L1) L2
  | pick {r : Res} {L L' L1 L2 : List Res} : Pick r L L' → Split L' L1 L2 → Split L (r :: L1) L2
  | app {A B C L : List Res} : IsApp B C A L → Split L B (A ++ C)

theorem Split.perm {L L1 L2 : List Res} (h : Split L L1 L2) : ∃ D : List Res, (∀ r ∈ D, (∃ p, r = .imm p) ∧ r ∈ L) ∧ (L1 ++ L2).Perm (D ++ L) := by
 induction h with
 | nil => exact ⟨[], by simp, .refl _⟩
 | @keep p L L1 L2 hm _ ih =>
  obtain ⟨D, hD, hp⟩ := ih
  refine ⟨.imm p :: D, fun r hr => ?_, hp.cons _⟩
  rcases List.mem_cons.1 hr with rfl | hr
  ·exact ⟨⟨p, rfl⟩, hm⟩
  ·exact hD r hr
 | @pick r L L' L1 L2 hk _ ih =>
  obtain ⟨D, hD, hp⟩ := ih
  refine ⟨D, fun q hq => ⟨(hD q hq).1, hk.perm.mem_iff.2 (List.mem_cons_of_mem _ (hD q hq).2)⟩, ?_⟩
  exact (hp.cons r).trans (List.perm_middle.symm.trans ((List.Perm.refl D).append hk.perm.symm))
 | @app A B C L h =>
  refine ⟨[], by simp, ?_⟩
  rw [h.eq, List.nil_append, ← List.append_assoc, ← List.append_assoc]
  exact List.perm_append_comm.append_right C

theorem Ent.dups {L : List Res} : ∀ (D : List Res), (∀ r ∈ D, (∃ p, r = .imm p) ∧ r ∈ L) → Ent L (D ++ L)
  | [], _ => Ent.refl _
  | r :: D, h => by
    obtain ⟨⟨p, rfl⟩, hm⟩ := h r List.mem_cons_self
    exact (Ent.dups D fun q hq => h q (List.mem_cons_of_mem _ hq)).trans (Ent.dup (List.mem_append_right _ hm))

theorem Split.ent {L L1 L2 : List Res} (h : Split L L1 L2) : Ent L (L1 ++ L2) := by
 obtain ⟨D, hD, hp⟩ := h.perm
 exact (Ent.dups D hD).trans (Ent.perm hp.symm)

theorem Ent.right (A : List Res) {B : List Res} : Ent (A ++ B) B := by
 induction A with
 | nil => exact Ent.refl _
 | cons r A ih => exact (Ent.drop r _).trans ih


/-! #### The world's moves -/

theorem St.drew {κ : Strm} {L : List Res} {w : World} (h : St κ L w) : St κ L { w with drawn := w.drawn + 1 } := by
 obtain ⟨hs, I, h1, h2, h3, h4⟩ := h
 refine ⟨hs, I, h1, fun r hr => ?_, h3, h4⟩
 have := h2 r hr
 cases r <;> exact this

theorem sat_of_grown {I : Imm} {w w' : World} {r : Res} (h : r.sat I w) (hb : ∀ b ∈ r.fp, w'.heap[b]? = w.heap[b]?) : r.sat I w' := by
 cases r with
 | cell b vs T => exact (hb b (by simp [Res.fp])).trans h
 | obj b o => exact (hb b (by simp [Res.fp])).trans h
 | imm p => exact h
 | arr v E sz n xs =>
  refine ⟨h.1, ?_⟩
  rcases h.2 with hn | ⟨g, cap, cur, rfl, hg0, hg, rest⟩
  ·exact .inl hn
  ·exact .inr ⟨g, cap, cur, rfl, hg0, (hb g (by simp [Res.fp, Value.ownBlock])).trans hg, rest⟩

/-- a new object -/
theorem St.new {κ : Strm} {L : List Res} {w : World} (h : St κ L w) (o : Obj) : St κ (.obj w.heap.size o :: L) (w.alloc o) := by
 obtain ⟨hs, I, h1, h2, h3, h4⟩ := h
 have hold : ∀ k, k < w.heap.size → (w.alloc o).heap[k]? = w.heap[k]? := fun k hk => heap_alloc_old w o k hk
 refine ⟨hs, I, fun b o' hb => ?_, fun r hr => ?_, ?_, fun b hb => ?_⟩
 ·have hlt : b < w.heap.size := (Array.getElem?_eq_some_iff.1 (h1 b o' hb)).1
  rw [hold b hlt]; exact h1 b o' hb
 ·rcases List.mem_cons.1 hr with rfl | hr
  ·exact heap_alloc_new w o
  ·exact sat_of_grown (h2 r hr) fun b hb => hold b (h4 b (List.mem_flatMap.2 ⟨r, hr, hb⟩)).2
 ·simp only [fps, List.flatMap_cons, Res.fp, List.singleton_append, List.nodup_cons]
  exact ⟨fun hm => Nat.lt_irrefl _ (h4 _ hm).2, h3⟩
 ·simp only [fps, List.flatMap_cons, Res.fp, List.singleton_append, List.mem_cons] at hb
  rcases hb with rfl | hb
  ·refine ⟨?_, by simp⟩
   cases hI : I w.heap.size with
   | none => rfl
   | some o' =>
    have := (Array.getElem?_eq_some_iff.1 (h1 _ o' hI)).1
    exact absurd this (Nat.lt_irrefl _)
  ·exact ⟨(h4 b hb).1, by simp; exact Nat.lt_succ_of_lt (h4 b hb).2⟩

theorem Ent.obj_cell (b : Nat) (vs : List Value) (T : TypeId) (L : List Res) : Ent (.obj b (.cells vs.toArray T (0, 0)) :: L) (.cell b vs T :: L) := by
 rintro κ w ⟨hs, I, h1, h2, h3, h4⟩
 refine ⟨hs, I, h1, fun r hr => ?_, h3, h4⟩
 rcases List.mem_cons.1 hr with rfl | hr
 ·exact h2 (.obj b _) List.mem_cons_self
 ·exact h2 r (List.mem_cons_of_mem _ hr)

/-- the first resource's one block is written anew -/
theorem St.write {κ : Strm} {L : List Res} {w w' : World} {r r' : Res} {b : Nat} (h : St κ (r :: L) w) (hr : r.fp = [b]) (hr' : r'.fp = [b])
  (hos : w'.os = w.os ∧ w'.output = w.output ∧ w'.tape = w.tape) (hsz : w'.heap.size = w.heap.size) (hot : ∀ k, k ≠ b → w'.heap[k]? = w.heap[k]?)
  (hsat : ∀ I, r.sat I w → r'.sat I w') : St κ (r' :: L) w' := by
 obtain ⟨hs, I, h1, h2, h3, h4⟩ := h
 have hb : I b = none := (h4 b (by simp [fps, hr])).1
 refine ⟨⟨hos.1.trans hs.1, hos.2.1.trans hs.2.1, hos.2.2.trans hs.2.2⟩, I, fun k o hk => ?_, fun q hq => ?_, ?_, fun k hk => ?_⟩
 ·have hne : k ≠ b := fun e => by rw [e, hb] at hk; cases hk
  rw [hot k hne]; exact h1 k o hk
 ·rcases List.mem_cons.1 hq with rfl | hq
  ·exact hsat I (h2 _ List.mem_cons_self)
  ·refine sat_of_grown (h2 q (List.mem_cons_of_mem _ hq)) fun k hk => hot k fun e => ?_
   subst e
   simp only [fps, List.flatMap_cons, hr, List.singleton_append, List.nodup_cons] at h3
   exact h3.1 (List.mem_flatMap.2 ⟨q, hq, hk⟩)
 ·simpa only [fps, List.flatMap_cons, hr, hr'] using h3
 ·rw [hsz]; exact h4 k (by simpa only [fps, List.flatMap_cons, hr, hr'] using hk)

/-- an append: the row's block, or a new one -/
theorem St.append {κ : Strm} {L : List Res} {w w' : World} {v v' : Value} {E : TypeId} {sz n n' : Nat} {xs xs' : List Value} (h : St κ (.arr v E sz n xs :: L) w)
  (hown : w'.ownsRow 0 E sz v' n' xs') (hg : w.grownBy w' v.ownBlock) (hnew : v'.ownBlock = v.ownBlock ∨ ∀ k, v'.ownBlock = some k → w.heap.size ≤ k) : St κ (.arr v' E sz n' xs' :: L) w' := by
 obtain ⟨hs, I, h1, h2, h3, h4⟩ := h
 have hI : ∀ k, some k = v.ownBlock → I k = none := fun k hk => (h4 k (by simp [fps, Res.fp, ← hk])).1
 have hIlt : ∀ k o, I k = some o → k < w.heap.size := fun k o hk => (Array.getElem?_eq_some_iff.1 (h1 k o hk)).1
 have hblk : ∀ k, k < w.heap.size → some k ≠ v.ownBlock → w'.heap[k]? = w.heap[k]? := fun k hk hne => hg.block k hk hne
 simp only [fps, List.flatMap_cons, Res.fp, List.nodup_append] at h3
 obtain ⟨n1, n2, n3⟩ := h3
 have hnotin : ∀ k ∈ L.flatMap Res.fp, some k ≠ v.ownBlock := fun k hk e => n3 k (by rw [← e]; simp) k hk rfl
 refine ⟨⟨hg.os.trans hs.1, hg.output.trans hs.2.1, hg.tape.trans hs.2.2⟩, I, fun k o hk => ?_, fun q hq => ?_, ?_, fun k hk => ?_⟩
 ·have hne : some k ≠ v.ownBlock := fun e => by rw [hI k e] at hk; cases hk
  rw [hblk k (hIlt k o hk) hne]; exact h1 k o hk
 ·rcases List.mem_cons.1 hq with rfl | hq
  ·exact hown
  ·refine sat_of_grown (h2 q (List.mem_cons_of_mem _ hq)) fun k hk => ?_
   have hk' : k ∈ L.flatMap Res.fp := List.mem_flatMap.2 ⟨q, hq, hk⟩
   exact hblk k (h4 k (by simp only [fps, List.flatMap_cons]; exact List.mem_append_right _ hk')).2 (hnotin k hk')
 ·simp only [fps, List.flatMap_cons, Res.fp, List.nodup_append]
  refine ⟨by cases v'.ownBlock <;> simp, n2, fun a ha b hb e => ?_⟩
  subst e
  have ha' : v'.ownBlock = some a := by simpa using ha
  rcases hnew with he | hnew
  ·exact hnotin a hb (by rw [← he, ha'])
  ·exact Nat.lt_irrefl _ (Nat.lt_of_le_of_lt (hnew a ha') (h4 a (by simp only [fps, List.flatMap_cons]; exact List.mem_append_right _ hb)).2)
 ·simp only [fps, List.flatMap_cons, Res.fp] at hk
  rcases List.mem_append.1 hk with hk | hk
  ·have ha' : v'.ownBlock = some k := by simpa using hk
   refine ⟨?_, (hown.lt k ha').2⟩
   rcases hnew with he | hnew
   ·exact hI k (by rw [← he, ha'])
   ·cases hIk : I k with
    | none => rfl
    | some o => exact absurd (hIlt k o hIk) (Nat.not_lt.2 (hnew k ha'))
  ·have := h4 k (by simp only [fps, List.flatMap_cons]; exact List.mem_append_right _ hk)
   exact ⟨this.1, Nat.lt_of_lt_of_le this.2 hg.size⟩

/-- a block that is our own is from now on left alone -/
theorem Ent.shutR {r : Res} {b : Nat} {p : Imm → Prop} {L : List Res} (hr : r.fp = [b]) (hp : ∀ I w, r.sat I w → ∃ o, w.heap[b]? = some o ∧ ∀ I', I' b = some o → p I') :
  Ent (r :: L) (.imm p :: L) := by
 rintro κ w ⟨hs, I, h1, h2, h3, h4⟩
 obtain ⟨o, ho, hpo⟩ := hp I w (h2 _ List.mem_cons_self)
 have hle : Imm.le I (fun k => if k = b then some o else I k) := fun k o' hk => by
  by_cases e : k = b
  ·subst e; rw [(h4 k (by simp [fps, hr])).1] at hk; cases hk
  ·simp [e, hk]
 simp only [fps, List.flatMap_cons, hr, List.singleton_append, List.nodup_cons] at h3
 refine ⟨hs, fun k => if k = b then some o else I k, fun k o' hk => ?_, fun q hq => ?_, ?_, fun k hk => ?_⟩
 ·by_cases e : k = b
  ·subst e; simp only [if_true, Option.some.injEq] at hk; subst hk; exact ho
  ·simp only [e, if_false] at hk; exact h1 k o' hk
 ·rcases List.mem_cons.1 hq with rfl | hq
  ·exact fun I' hI => hpo I' (hI b o (by simp))
  ·have := h2 q (List.mem_cons_of_mem _ hq)
   cases q with
   | imm q => exact fun I' hI => this I' fun k o' hk => hI k o' (hle k o' hk)
   | cell _ _ _ => exact this
   | obj _ _ => exact this
   | arr _ _ _ _ _ => exact this
 ·simpa only [fps, List.flatMap_cons, Res.fp, List.nil_append] using h3.2
 ·have hk' : k ∈ L.flatMap Res.fp := by simpa only [fps, List.flatMap_cons, Res.fp, List.nil_append] using hk
  have hne : k ≠ b := fun e => h3.1 (e ▸ hk')
  have := h4 k (by simp only [fps, List.flatMap_cons]; exact List.mem_append_right _ hk')
  simp only [hne, if_false]
  exact this

end Go.Yb
