/-
  A part of the proof of windowLine_holds: see the text that holds it. No conditions of its own.
-/
import Derived.Test.YtbfhhinhjgdgpaaGreatDoorSl
import Derived.RangeFuncRecord
namespace Go.Yb
open Go Go.RowKit

/-! ### Ranges over functions -/

/-- THE CONTRACT OF AN ITERATOR: whatever 'yield' does to the state of the one who ranges, it is called with the elements, one behind the other, until it says no. -/
def Iter {α : Type} (P : Program) (f : FuncId) (first cap : List Value) (L Lk : List Res) (xs : List α) (El : α → List Value → List Res → Prop) : Prop :=
  ∀ (yv : Value) (S Sx : Type) (I : Nat → S → Prop) (R : S → List Res) (Ix : Sx → Prop) (Rx : Sx → List Res) (s0 : S), I 0 s0 →
    (∀ k x s vs Lx, xs[k]? = some x → El x vs Lx → I k s → Tri P yv vs.toArray (Lx ++ R s) (fun v L' => (v = .bool true ∧ ∃ s', I (k + 1) s' ∧ L' = R s') ∨ (v = .bool false ∧ ∃ s', Ix s' ∧ L' = Rx s'))) →
    FnC P f (first ++ yv :: cap).toArray (L ++ R s0) (fun _ L' => (∃ s', I xs.length s' ∧ L' = Lk ++ R s') ∨ ∃ s', Ix s' ∧ L' = Lk ++ Rx s')

def rangeEnv : List Nat → List Value → Env → Env
  | p :: ps, v :: vs, e => rangeEnv ps vs ((p, v) :: e)
  | _, _, e => e

def setAll : List Nat → List Value → Array Value → Array Value
  | p :: ps, v :: vs, t => setAll ps vs (t.setIfInBounds p v)
  | _, _, t => t
theorem setAll_eq : ∀ (ps : List Nat) (vs : List Value) (t : Array Value), (ps.toArray.zip vs.toArray).foldl (fun t (x : Nat × Value) => t.setIfInBounds x.1 x.2) t = setAll ps vs t
  | [], vs, t => by
    simp only [List.zip_toArray, List.foldl_toArray, List.zip_nil_left, List.foldl_nil]
    cases vs <;> rfl
  | p :: ps, [], t => by simp [setAll, List.zip_toArray]
  | p :: ps, v :: vs, t => by
    have := setAll_eq ps vs (t.setIfInBounds p v)
    simp only [List.zip_toArray, List.foldl_toArray] at this ⊢
    exact this
theorem has_rangeEnv {n : Nat} {ds : List Deferred} : ∀ (ps : List Nat) (vs : List Value) (e : Env) (a : Act), Has n ds e a → (ps.all fun p => Nat.blt p n) = true →
    Has n [] (rangeEnv ps vs e) { tmps := setAll ps vs a.tmps, defers := [] }
  | [], vs, e, a, h, _ => by
    have : rangeEnv [] vs e = e := by cases vs <;> rfl
    rw [this]
    exact ⟨h.1, rfl, h.2.2⟩
  | p :: ps, [], e, a, h, _ => ⟨h.1, rfl, h.2.2⟩
  | p :: ps, v :: vs, e, a, h, hp => by
    simp only [List.all_cons, Bool.and_eq_true] at hp
    have h1 : Has n ds (Env.put e (some p) v) (a.put (some p) v) := h.put (d := some p) hp.1 v
    exact has_rangeEnv ps vs _ _ h1 hp.2

def exCode : Exit → Option Code
  | .ret => some .ret
  | .exit id => some (.exit id)
  | .goto t => some (.goto t)
  | _ => none

section
variable {P : Program} {n : Nat} {K : Post} {Q : Exit → Post} {e : Env} {ds : List Deferred} {L L2 : List Res}

theorem obj_at {κ : Strm} {w : World} {b : Nat} {o : Obj} {L L' : List Res} (h : St κ L w) (hp : Pick (.obj b o) L L') : w.heap[b]? = some o := by
 obtain ⟨_, I, _, h2, _, _⟩ := h
 exact h2 _ (hp.perm.mem_iff.2 List.mem_cons_self)
theorem St.putObj {κ : Strm} {w : World} {b : Nat} {o o' : Obj} {L : List Res} (h : St κ (.obj b o :: L) w) : St κ (.obj b o' :: L) (w.putObj b o') := by
 have hb := obj_at h .head
 exact St.write (r := .obj b o) (b := b) h rfl rfl ⟨rfl, rfl, rfl⟩ World.putObj_size (fun k hk => World.putObj_heap_other hk) fun I _ => World.putObj_heap_same (Array.getElem?_eq_some_iff.1 hb).1

def markOf (D : Nat) : Deferred := { target := .collected D, args := #[] }

theorem permA (o1 o2 : Res) (A B C : List Res) : (o1 :: o2 :: ((A ++ B) ++ C)).Perm ((A ++ (o1 :: B)) ++ (o2 :: C)) :=
  ((List.Perm.swap _ _ _).trans (.cons _ ((List.perm_middle (l₁ := A) (l₂ := B) (a := o1)).symm.append_right C))).trans (List.perm_middle (l₁ := A ++ (o1 :: B)) (l₂ := C) (a := o2)).symm
theorem permB (o : Res) (A B C : List Res) : ((A ++ (o :: B)) ++ C).Perm (o :: (A ++ B ++ C)) := (List.perm_middle (l₁ := A) (l₂ := B) (a := o)).append_right C
theorem permC (o : Res) (A B C : List Res) : ((A ++ (o :: B)) ++ C).Perm (A ++ B ++ (o :: C)) := (permB o A B C).trans (List.perm_middle (l₁ := A ++ B) (l₂ := C) (a := o)).symm
theorem perm_mid (A : List Res) (r : Res) (B : List Res) : (A ++ r :: B).Perm (r :: (A ++ B)) := List.perm_middle

theorem W.rangeF {α : Type} {g : Operand} {ps : List Nat} {assign body : Code} {f : FuncId} {first cap : List Value} {Li Lk : List Res} {xs : List α} {El : α → List Value → List Res → Prop}
  {S : Type} (I : Nat → S → Prop) (R : S → List Res) (Ix : Exit → S → Prop) (Rx : S → List Res) (s0 : S) (hg : Env.ev e g = some (.func (.func f) first.toArray cap.toArray)) (hc : ∀ args w, (callFunc f args).run P w = .ok (.enter f args) w)
  (hit : Iter P f first cap Li Lk xs El) (hsp : Split L (Li ++ R s0) L2) (h0 : I 0 s0) (hps : (ps.all fun p => Nat.blt p n) = true) (hlen : ∀ x vs Lx, El x vs Lx → vs.length = ps.length)
  (hround : ∀ l k x s vs Lx, xs[k]? = some x → El x vs Lx → I k s → ∀ Lf, W P (some l) n assign (fun e1 ds1 L1 => ds1 = [] ∧ ∃ A, IsApp (Lx ++ R s) Lf A L1 ∧
    ∀ Lf, W P (some l) n body (fun _ _ L' => ∃ s', I (k + 1) s' ∧ Ent L' (R s' ++ Lf)) (fun ex _ _ L' => ∃ s', Ix ex s' ∧ Ent L' (Rx s' ++ Lf)) e1 [] (A ++ (Lx ++ R s ++ Lf))) (fun _ _ _ _ => False) (rangeEnv ps vs e) [] (Lx ++ R s ++ Lf))
  (hdone : ∀ D s, I xs.length s → K e (markOf D :: ds) (Lk ++ R s ++ .obj D (.deferred (some [])) :: L2))
  (hstop : ∀ D ex s, Ix ex s → Q ex e (markOf D :: ds) (Lk ++ Rx s ++ .obj D (.deferred (some [])) :: L2)) :
  W P none n (.rangeFunc g ps.toArray assign body) K Q e ds L := fun κ w a ha hs => by
 refine wpIn_rangeFunc fun fn hfn => ?_
 let rec_ : LoopState → Option Code → Loop := fun st pe => { state := st, pending := pe, fn, tmps := a.tmps, params := ps.toArray, assign, body, defers := w.heap.size }
 let l := w.heap.size + 1
 let W1 := (w.alloc (.deferred (some []))).alloc (.loop (rec_ .ready none))
 have hs1 : St κ (.obj l (.loop (rec_ .ready none)) :: .obj w.heap.size (.deferred (some [])) :: L) W1 := by
  have h1 := (hs.new (.deferred (some []))).new (.loop (rec_ .ready none))
  rw [World.size_alloc] at h1
  exact h1
 refine ⟨l, [markOf w.heap.size], W1, { target := .fn (.func f) cap.toArray, args := first.toArray ++ #[.func (.yield l) #[] #[]] }, W1, f, first.toArray ++ #[.func (.yield l) #[] #[]] ++ cap.toArray, W1, run_enterLoop_outer _ _ _ _ _, ?_, fun _ _ => trivial, ?_, fun h => by simp [Fence.wide] at h, ?_⟩
 ·simp only [resolve, ha.eval hg]
  simp [go_sem]
 ·simp [invoke, hc]
 ·have hF := hit (.func (.yield l) #[] #[]) S (Exit × Code × S) (fun k s => I k s) (fun s => .obj l (.loop (rec_ .ready none)) :: R s)
   (fun x => exCode x.1 = some x.2.1 ∧ Ix x.1 x.2.2) (fun x => .obj l (.loop (rec_ .done (some x.2.1))) :: Rx x.2.2) s0 h0 ?_
  ·have hargs : first.toArray ++ #[.func (.yield l) #[] #[]] ++ cap.toArray = (first ++ .func (.yield l) #[] #[] :: cap).toArray := by simp
   rw [hargs]
   have hst : St κ ((Li ++ (.obj l (.loop (rec_ .ready none)) :: R s0)) ++ (.obj w.heap.size (.deferred (some [])) :: L2)) W1 := by
    have h1 : Ent (.obj l (.loop (rec_ .ready none)) :: .obj w.heap.size (.deferred (some [])) :: L) (.obj l (.loop (rec_ .ready none)) :: .obj w.heap.size (.deferred (some [])) :: ((Li ++ R s0) ++ L2)) := by
     have := hsp.ent
     obtain ⟨D, hD, hp⟩ := hsp.perm
     have e1 : Ent (.obj l (.loop (rec_ .ready none)) :: .obj w.heap.size (.deferred (some [])) :: L) (D ++ (.obj l (.loop (rec_ .ready none)) :: .obj w.heap.size (.deferred (some [])) :: L)) :=
      Ent.dups D fun q hq => ⟨(hD q hq).1, List.mem_cons_of_mem _ (List.mem_cons_of_mem _ (hD q hq).2)⟩
     refine e1.trans (Ent.perm ?_)
     refine (perm_mid D _ _).trans (.cons _ ?_)
     exact (perm_mid D _ _).trans (.cons _ hp.symm)
    exact Ent.perm (permA _ _ Li (R s0) L2) κ W1 (h1 κ W1 hs1)
   refine (hF _ κ W1 hst).mono fun en w' h => ?_
   obtain ⟨v, L', rfl, hR, hst'⟩ := h
   rcases hR with ⟨s', hI, rfl⟩ | ⟨⟨ex, c, s'⟩, ⟨hex, hI⟩, rfl⟩
   all_goals replace hst' := Ent.perm (permB _ Lk _ _) κ w' hst'
   ·have hl := obj_at hst' .head
    refine ⟨none, _, run_endLoop hl (by simp [rec_]), ?_⟩
    have h2 := St.putObj (o' := .loop { rec_ .ready none with state := .exhausted }) hst'
    exact ⟨_, _, _, ⟨ha.1, by simp [ha.2.1, markOf], ha.2.2⟩, Ent.drop _ _ _ _ h2, hdone w.heap.size s' hI⟩
   ·have hl := obj_at hst' .head
    refine ⟨some c, _, run_endLoop hl (by simp [rec_]), ?_⟩
    have h2 := Ent.drop _ _ _ _ (St.putObj (o' := .loop { rec_ .done (some c) with state := .exhausted }) hst')
    have hA : Has n (markOf w.heap.size :: ds) e { a with defers := [markOf w.heap.size] ++ a.defers } := ⟨ha.1, by simp [ha.2.1], ha.2.2⟩
    have hq := hstop w.heap.size ex s' hI
    cases ex with
    | ret => cases hex; exact wpIn_ret ⟨_, _, _, hA, h2, hq⟩
    | exit id => cases hex; exact wpIn_exit ⟨_, _, _, hA, h2, hq⟩
    | goto t => cases hex; exact wpIn_goto ⟨_, _, _, hA, h2, hq⟩
    | normal => cases hex
    | panic _ => cases hex
    | outgrown => cases hex
  ·intro k x s vs Lx hx hEl hI Lf κ' w' hst
   have hl : w'.heap[l]? = some (.loop (rec_ .ready none)) := obj_at (L' := Lx ++ R s ++ Lf) (Ent.perm (permB _ Lx (R s) Lf) κ' w' hst) .head
   refine ⟨{ target := .fn (.yield l) #[], args := #[] ++ vs.toArray }, w', .round l fn (setAll ps vs a.tmps) assign body, w', rfl, ?_, ?_⟩
   ·simp only [invoke, Array.append_empty]
    have := run_yield (P := P) (args := #[] ++ vs.toArray) hl (by simp [rec_, hlen _ _ _ hEl])
    rw [← setAll_eq]
    simpa [rec_] using this
   ·refine roundIn_of_wpIn hfn ?_
    have hst2 : St κ' (Lx ++ R s ++ (.obj l (.loop (rec_ .ready none)) :: Lf)) w' := Ent.perm (permC _ Lx (R s) Lf) κ' w' hst
    refine wpIn_mono (hround l k x s vs Lx hx hEl hI _ κ' w' _ (has_rangeEnv ps vs e a ha hps) hst2) fun ex a1 w1 q => ?_
    cases ex with
    | normal =>
     obtain ⟨e1, ds1, L1, hA1, hS1, rfl, A, hIA, hb⟩ := q
     have hperm : ∀ o, (A ++ (Lx ++ R s ++ (o :: Lf))).Perm (o :: (A ++ (Lx ++ R s ++ Lf))) := fun o => by
      have := List.perm_middle (a := o) (l₁ := A ++ (Lx ++ R s)) (l₂ := Lf)
      simpa only [List.append_assoc] using this
     rw [hIA.eq] at hS1
     have hS1' := Ent.perm (hperm _) κ' w1 hS1
     have hl1 := obj_at hS1' .head
     refine ⟨_, run_beginRound hl1 rfl, ?_⟩
     have hS2 := St.putObj (o' := .loop (rec_ .busy none)) hS1'
     have hS3 := Ent.perm (hperm _).symm κ' _ hS2
     refine wpIn_mono (hb _ κ' _ _ hA1 hS3) fun ex a2 w2 q => ?_
     have fin : ∀ (A : List Res) (L' : List Res) (hst : St κ' L' w2) (hE : Ent L' (A ++ (.obj l (.loop (rec_ .busy none)) :: Lf))) (jump : Option Code),
       (Instr.endRound l jump).run P w2 = .ok (.bool jump.isNone) (w2.putObj l (.loop (rec_ (if jump.isNone then .ready else .done) jump))) ∧
       St κ' ((.obj l (.loop (rec_ (if jump.isNone then .ready else .done) jump)) :: A) ++ Lf) (w2.putObj l (.loop (rec_ (if jump.isNone then .ready else .done) jump))) := by
      intro A L' hst hE jump
      have h1 := Ent.perm (perm_mid A _ Lf) κ' w2 (hE κ' w2 hst)
      exact ⟨run_endRound jump (obj_at h1 .head), St.putObj h1⟩
     cases ex with
     | normal =>
      obtain ⟨e', ds', L', _, hst', s', hI', hE⟩ := q
      obtain ⟨h1, h2⟩ := fin _ _ hst' hE none
      exact ⟨_, _, h1, _, _, rfl, .inl ⟨rfl, s', hI', rfl⟩, h2⟩
     | ret =>
      obtain ⟨e', ds', L', _, hst', s', hI', hE⟩ := q
      obtain ⟨h1, h2⟩ := fin _ _ hst' hE (some .ret)
      exact ⟨_, _, h1, _, _, rfl, .inr ⟨rfl, (.ret, .ret, s'), ⟨rfl, hI'⟩, rfl⟩, h2⟩
     | exit id =>
      obtain ⟨e', ds', L', _, hst', s', hI', hE⟩ := q
      obtain ⟨h1, h2⟩ := fin _ _ hst' hE (some (.exit id))
      exact ⟨_, _, h1, _, _, rfl, .inr ⟨rfl, (.exit id, .exit id, s'), ⟨rfl, hI'⟩, rfl⟩, h2⟩
     | goto t =>
      obtain ⟨e', ds', L', _, hst', s', hI', hE⟩ := q
      obtain ⟨h1, h2⟩ := fin _ _ hst' hE (some (.goto t))
      exact ⟨_, _, h1, _, _, rfl, .inr ⟨rfl, (.goto t, .goto t, s'), ⟨rfl, hI'⟩, rfl⟩, h2⟩
     | panic _ => exact q.elim
     | outgrown => exact q.elim
    | ret => obtain ⟨_, _, _, _, _, h⟩ := q; exact h.elim
    | exit id => obtain ⟨_, _, _, _, _, h⟩ := q; exact h.elim
    | goto t => obtain ⟨_, _, _, _, _, h⟩ := q; exact h.elim
    | panic _ => exact q.elim
    | outgrown => exact q.elim
end
end Go.Yb
