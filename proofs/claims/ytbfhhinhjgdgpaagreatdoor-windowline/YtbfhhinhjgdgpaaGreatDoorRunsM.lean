/-
  A part of the proof of windowLine_holds: see the text that holds it. No conditions of its own.
-/
import Derived.Test.YtbfhhinhjgdgpaaGreatDoorPmc
namespace Go.Yb
open Go
/-! runs: times, as runs: the models and their plain laws -/
structure Rn where
  From : Int
  Step : Int
  Count : Int
  deriving DecidableEq
def encR (r : Rn) : List Value := [.int .i64 r.From, .int .i64 r.Step, .int .i64 r.Count]
def encI (n : Int) : List Value := [.int .i64 n]
def lastR (r : Rn) : Int := r.From + r.Step * (r.Count - 1)
def runA (r : Rn) : Bool := decide (1 ≤ r.Count ∧ r.Count ≤ 256 ∧ 0 ≤ r.From ∧ r.From ≤ 281474976710656 ∧ 0 ≤ r.Step ∧ r.Step ≤ 281474976710656)
def runB (r : Rn) (e : Bool) : Bool := (decide (r.Count = 1) == decide (r.Step = 0)) && (decide (1 < r.Count) || e) && decide (lastR r ≤ 281474976710656)
def runC (p : Option Rn) (r : Rn) : Bool := match p with
  | none => true
  | some q => decide (0 < r.From - lastR q) && decide (r.From - lastR q ≠ q.Step)
def risesL : Option Rn → List Rn → Bool
  | _, [] => true
  | p, r :: rs => runA r && (runB r rs.isEmpty && (runC p r && risesL (some r) rs))
def manyR : List Rn → Int
  | [] => 0
  | r :: rs => r.Count + manyR rs
def risesM (l : List Rn) : Bool := decide (0 < l.length ∧ l.length ≤ 256) && (risesL none l && decide (manyR l ≤ 256))
def timesOf (r : Rn) : List Int := (List.range r.Count.toNat).map fun (k : Nat) => r.From + r.Step * (k : Int)
def timesR (l : List Rn) : List Int := l.flatMap timesOf
def takeR (s : Rn × List Rn) (t : Int) : Rn × List Rn :=
  if s.1.Count = 0 then (⟨t, 0, 1⟩, s.2)
  else if s.1.Count = 1 then (⟨s.1.From, t - s.1.From, 2⟩, s.2)
  else if t - lastR s.1 = s.1.Step then (⟨s.1.From, s.1.Step, s.1.Count + 1⟩, s.2)
  else (⟨t, 0, 1⟩, s.2 ++ [s.1])
def row0 : Rn × List Rn := (⟨0, 0, 0⟩, [])
def laidM (ts : List Int) : List Rn := (ts.foldl takeR row0).2 ++ [(ts.foldl takeR row0).1]
def chkT : Int → List Int → Bool
  | _, [] => true
  | last, t :: ts => decide (last < t) && (decide (t ≤ 281474976710656) && chkT t ts)
def timesOkM (ts : List Int) : Bool := decide (1 ≤ ts.length ∧ ts.length ≤ 256) && chkT (-1) ts
def atR : List Rn → Int → Option Int
  | [], _ => none
  | r :: rs, i => if i < r.Count then some (r.From + r.Step * i) else atR rs (i - r.Count)

theorem runA_t {r : Rn} (h : runA r = true) : 1 ≤ r.Count ∧ r.Count ≤ 256 ∧ 0 ≤ r.From ∧ r.From ≤ 281474976710656 ∧ 0 ≤ r.Step ∧ r.Step ≤ 281474976710656 := of_decide_eq_true h
theorem runA_mul {r : Rn} (h : runA r = true) {k : Int} (h0 : 0 ≤ k) (hk : k ≤ 256) : 0 ≤ r.Step * k ∧ r.Step * k ≤ 72057594037927936 := by
 have := runA_t h
 refine ⟨Int.mul_nonneg (by omega) h0, ?_⟩
 have h1 : r.Step * k ≤ 281474976710656 * k := Int.mul_le_mul_of_nonneg_right (by omega) h0
 omega
theorem risesM_t {l : List Rn} (h : risesM l = true) : (0 < l.length ∧ l.length ≤ 256) ∧ risesL none l = true ∧ manyR l ≤ 256 := by
 simp only [risesM, Bool.and_eq_true, decide_eq_true_eq] at h; exact ⟨h.1, h.2.1, h.2.2⟩
theorem risesL_c {p : Option Rn} {r : Rn} {rs : List Rn} (h : risesL p (r :: rs) = true) : runA r = true ∧ runB r rs.isEmpty = true ∧ runC p r = true ∧ risesL (some r) rs = true := by
 simp only [risesL, Bool.and_eq_true] at h; exact ⟨h.1, h.2.1, h.2.2.1, h.2.2.2⟩
theorem risesL_all : ∀ {p : Option Rn} {l : List Rn}, risesL p l = true → ∀ r ∈ l, runA r = true ∧ lastR r ≤ 281474976710656
  | _, [], _, r, hr => by cases hr
  | _, x :: l, h, r, hr => by
    obtain ⟨h1, h2, _, h4⟩ := risesL_c h
    rcases List.mem_cons.1 hr with rfl | hr
    · refine ⟨h1, ?_⟩
      simp only [runB, Bool.and_eq_true, decide_eq_true_eq] at h2; exact h2.2
    · exact risesL_all h4 r hr
theorem manyR_pos : ∀ {l : List Rn}, (∀ r ∈ l, runA r = true) → (l.length : Int) ≤ manyR l ∧ manyR l ≤ 256 * (l.length : Int)
  | [], _ => by simp [manyR]
  | x :: l, h => by
    have h1 := runA_t (h x List.mem_cons_self)
    have h2 := manyR_pos (l := l) fun r hr => h r (List.mem_cons_of_mem _ hr)
    simp only [manyR, List.length_cons]; omega
theorem atR_some : ∀ {l : List Rn} {i v : Int}, (∀ r ∈ l, runA r = true ∧ lastR r ≤ 281474976710656) → 0 ≤ i → atR l i = some v → 0 ≤ v ∧ v ≤ 281474976710656
  | [], i, v, _, _, h => by simp [atR] at h
  | r :: l, i, v, ha, h0, h => by
    simp only [atR] at h
    have h1 := ha r List.mem_cons_self
    split at h
    · rename_i hlt
      simp only [Option.some.injEq] at h
      have h2 := runA_t h1.1
      have h3 := h1.2
      have h4 : r.Step * i ≤ r.Step * (r.Count - 1) := Int.mul_le_mul_of_nonneg_left (by omega) (by omega)
      have h5 : 0 ≤ r.Step * i := Int.mul_nonneg (by omega) h0
      unfold lastR at h3; omega
    · exact atR_some (fun x hx => ha x (List.mem_cons_of_mem _ hx)) (by omega) h
theorem timesOf_len (r : Rn) : (timesOf r).length = r.Count.toNat := by simp [timesOf]
theorem timesR_len : ∀ {l : List Rn}, (∀ r ∈ l, runA r = true) → ((timesR l).length : Int) = manyR l
  | [], _ => rfl
  | x :: l, h => by
    have h1 := runA_t (h x List.mem_cons_self)
    have h2 := timesR_len (l := l) fun r hr => h r (List.mem_cons_of_mem _ hr)
    simp only [timesR, List.flatMap_cons, List.length_append, timesOf_len, manyR] at *
    omega
/-! the runs of times that rise -/
theorem rises_put : ∀ {l : List Rn} {p : Option Rn} {r r' : Rn}, risesL p (l ++ [r]) = true → r'.From = r.From → runA r' = true → runB r' true = true → risesL p (l ++ [r']) = true
  | [], p, r, r', h, hf, ha, hb => by
    obtain ⟨_, _, h3, _⟩ := risesL_c h
    have h3' : runC p r' = true := by cases p <;> simp_all [runC]
    simp [risesL, ha, hb, h3']
  | x :: l, p, r, r', h, hf, ha, hb => by
    obtain ⟨h1, h2, h3, h4⟩ := risesL_c h
    have := rises_put h4 hf ha hb
    have e1 : (l ++ [r]).isEmpty = false := by cases l <;> rfl
    have e2 : (l ++ [r']).isEmpty = false := by cases l <;> rfl
    replace h2 : runB x (l ++ [r]).isEmpty = true := h2
    rw [e1] at h2
    simp only [List.cons_append, risesL, Bool.and_eq_true]
    exact ⟨h1, by rw [e2]; exact h2, h3, this⟩
theorem rises_push : ∀ {l : List Rn} {p : Option Rn} {r s : Rn}, risesL p (l ++ [r]) = true → 1 < r.Count → runA s = true → runB s true = true → runC (some r) s = true → risesL p (l ++ [r] ++ [s]) = true
 | [], p, r, s, h, hc, ha, hb, hg => by
  obtain ⟨h1, h2, h3, _⟩ := risesL_c h
  have h2' : runB r false = true := by
   simp only [runB, Bool.and_eq_true, Bool.or_eq_true] at h2 ⊢
   exact ⟨⟨h2.1.1, .inl (decide_eq_true hc)⟩, h2.2⟩
  simp [risesL, h1, h2', h3, ha, hb, hg]
 | x :: l, p, r, s, h, hc, ha, hb, hg => by
  obtain ⟨h1, h2, h3, h4⟩ := risesL_c h
  have := rises_push h4 hc ha hb hg
  have e1 : (l ++ [r]).isEmpty = false := by cases l <;> rfl
  have e2 : (l ++ [r] ++ [s]).isEmpty = false := by cases l <;> rfl
  replace h2 : runB x (l ++ [r]).isEmpty = true := h2
  rw [e1] at h2
  simp only [List.cons_append, risesL, Bool.and_eq_true] at this ⊢
  exact ⟨h1, by rw [e2]; exact h2, h3, this⟩
/-- what is known of the runs behind some times -/
def RowInv (ts : List Int) (s : Rn × List Rn) : Prop :=
  risesL none (s.2 ++ [s.1]) = true ∧ timesR (s.2 ++ [s.1]) = ts ∧ manyR (s.2 ++ [s.1]) = (ts.length : Int) ∧ ts.getLast? = some (lastR s.1)
theorem timesR_app (a b : List Rn) : timesR (a ++ b) = timesR a ++ timesR b := by simp [timesR]
theorem manyR_app : ∀ (a b : List Rn), manyR (a ++ b) = manyR a + manyR b
  | [], b => by simp [manyR]
  | x :: a, b => by simp only [List.cons_append, manyR, manyR_app a b]; omega
theorem timesOf_more {f s c : Int} (h : 0 ≤ c) : timesOf ⟨f, s, c + 1⟩ = timesOf ⟨f, s, c⟩ ++ [f + s * c] := by
 have e : (c + 1).toNat = c.toNat + 1 := by omega
 simp only [timesOf, e, List.range_succ, List.map_append, List.map_cons, List.map_nil]
 rw [show ((c.toNat : Nat) : Int) = c from by omega]
theorem row_step {ts : List Int} {s : Rn × List Rn} {t last : Int} (h : RowInv ts s) (hlast : ts.getLast? = some last) (hlt : last < t) (ht : t ≤ 281474976710656) (hn : ts.length < 256) : RowInv (ts ++ [t]) (takeR s t) := by
 obtain ⟨h1, h2, h3, h4⟩ := h
 rw [hlast] at h4
 simp only [Option.some.injEq] at h4
 subst h4
 have ha := risesL_all h1 s.1 (by simp)
 have hA := runA_t ha.1
 have hmany : s.1.Count ≤ (ts.length : Int) := by
  rw [manyR_app] at h3
  have := (manyR_pos (l := s.2) fun r hr => (risesL_all h1 r (by simp [hr])).1).1
  simp only [manyR] at h3; omega
 have hB : runB s.1 true = true := by
  have : ∀ (l : List Rn) (p : Option Rn), risesL p (l ++ [s.1]) = true → runB s.1 true = true := by
   intro l
   induction l with
   | nil => intro p hp; exact (risesL_c hp).2.1
   | cons x l ih => intro p hp; exact ih _ (risesL_c hp).2.2.2
  exact this _ _ h1
 simp only [runB, Bool.and_eq_true, beq_iff_eq, decide_eq_decide, decide_eq_true_eq] at hB
 have hgl : (ts ++ [t]).getLast? = some t := by simp
 unfold takeR
 rw [if_neg (by omega)]
 by_cases c1 : s.1.Count = 1
 ·rw [if_pos c1]
  have hs0 : s.1.Step = 0 := hB.1.1.1 c1
  have hl1 : lastR s.1 = s.1.From := by unfold lastR; rw [c1]; simp
  rw [hl1] at hlt
  have hA2 : runA ⟨s.1.From, t - s.1.From, 2⟩ = true := decide_eq_true ⟨by simp, by simp, hA.2.2.1, hA.2.2.2.1, by simp only; omega, by simp only; omega⟩
  have hl2 : lastR ⟨s.1.From, t - s.1.From, 2⟩ = t := by simp only [lastR]; omega
  have hB2 : runB ⟨s.1.From, t - s.1.From, 2⟩ true = true := by
   simp only [runB, hl2, Bool.and_eq_true, beq_iff_eq, decide_eq_decide, decide_eq_true_eq, Bool.or_true, and_true]
   exact ⟨⟨by omega, by omega⟩, ht⟩
  refine ⟨rises_put h1 rfl hA2 hB2, ?_, ?_, by rw [hgl, hl2]⟩
  ·rw [← h2, timesR_app, timesR_app]
   have e1 : timesR [s.1] = [s.1.From] := by simp [timesR, timesOf, c1]
   have e2 : timesR [(⟨s.1.From, t - s.1.From, 2⟩ : Rn)] = [s.1.From, t] := by
    simp only [timesR, timesOf, List.flatMap_cons, List.flatMap_nil, List.append_nil, show ((2 : Int).toNat) = 2 from rfl, List.range_succ, List.range_zero]
    simp; omega
   rw [e1, e2]; simp
  ·rw [manyR_app] at h3 ⊢
   simp only [manyR, List.length_append, List.length_cons, List.length_nil] at h3 ⊢; omega
 ·rw [if_neg c1]
  by_cases c2 : t - lastR s.1 = s.1.Step
  ·rw [if_pos c2]
   have hl2 : lastR ⟨s.1.From, s.1.Step, s.1.Count + 1⟩ = t := by
    unfold lastR at c2 ⊢
    simp only
    have : s.1.Step * (s.1.Count + 1 - 1) = s.1.Step * (s.1.Count - 1) + s.1.Step := by rw [show s.1.Count + 1 - 1 = (s.1.Count - 1) + 1 from by omega, Int.mul_add, Int.mul_one]
    omega
   have hA2 : runA ⟨s.1.From, s.1.Step, s.1.Count + 1⟩ = true := decide_eq_true ⟨by simp only; omega, by simp only; omega, hA.2.2.1, hA.2.2.2.1, hA.2.2.2.2.1, hA.2.2.2.2.2⟩
   have hB2 : runB ⟨s.1.From, s.1.Step, s.1.Count + 1⟩ true = true := by
    simp only [runB, hl2, Bool.and_eq_true, beq_iff_eq, decide_eq_decide, decide_eq_true_eq, Bool.or_true, and_true]
    exact ⟨⟨by omega, by have := hB.1.1.2; omega⟩, ht⟩
   refine ⟨rises_put h1 rfl hA2 hB2, ?_, ?_, by rw [hgl, hl2]⟩
   ·rw [← h2, timesR_app, timesR_app]
    have e2 : timesR [(⟨s.1.From, s.1.Step, s.1.Count + 1⟩ : Rn)] = timesR [s.1] ++ [t] := by
     simp only [timesR, List.flatMap_cons, List.flatMap_nil, List.append_nil]
     rw [timesOf_more (by omega)]
     congr 2
     rw [← hl2]; unfold lastR; simp only; rw [show s.1.Count + 1 - 1 = s.1.Count from by omega]
    rw [e2]; simp
   ·rw [manyR_app] at h3 ⊢
    simp only [manyR, List.length_append, List.length_cons, List.length_nil] at h3 ⊢; omega
  ·rw [if_neg c2]
   have hA2 : runA ⟨t, 0, 1⟩ = true := by
    have : 0 ≤ lastR s.1 := by
     have := runA_mul (k := s.1.Count - 1) ha.1 (by omega) (by omega)
     unfold lastR; omega
    exact decide_eq_true ⟨by simp, by simp, by simp only; omega, ht, by simp, by simp⟩
   have hl2 : lastR ⟨t, 0, 1⟩ = t := by simp [lastR]
   have hB2 : runB ⟨t, 0, 1⟩ true = true := by
    simp only [runB, hl2, Bool.and_eq_true, beq_iff_eq, decide_eq_decide, decide_eq_true_eq, Bool.or_true, and_true]
    exact ⟨by simp, ht⟩
   have hC : runC (some s.1) ⟨t, 0, 1⟩ = true := by
    simp only [runC, Bool.and_eq_true, decide_eq_true_eq]
    exact ⟨by omega, c2⟩
   refine ⟨rises_push h1 (by omega) hA2 hB2 hC, ?_, ?_, by rw [hgl, hl2]⟩
   ·rw [← h2, timesR_app (s.2 ++ [s.1])]
    congr 1
    simp [timesR, timesOf]
   ·rw [manyR_app (s.2 ++ [s.1]), h3]
    simp only [manyR, List.length_append, List.length_cons, List.length_nil]; omega
theorem row_fold : ∀ (rest ts : List Int) (s : Rn × List Rn) (last : Int), RowInv ts s → ts.getLast? = some last → chkT last rest = true → ts.length + rest.length ≤ 256 → RowInv (ts ++ rest) (rest.foldl takeR s)
  | [], ts, s, last, h, _, _, _ => by simpa using h
  | t :: rest, ts, s, last, h, hl, hc, hn => by
    simp only [chkT, Bool.and_eq_true, decide_eq_true_eq] at hc
    have h1 := row_step h hl hc.1 hc.2.1 (by simp at hn; omega)
    have := row_fold rest (ts ++ [t]) (takeR s t) t h1 (by simp) hc.2.2 (by simp at hn ⊢; omega)
    simpa using this
theorem row_first (t : Int) (h0 : 0 ≤ t) (ht : t ≤ 281474976710656) : RowInv [t] (takeR row0 t) := by
 have e : takeR row0 t = (⟨t, 0, 1⟩, []) := rfl
 rw [e]
 have hA : runA ⟨t, 0, 1⟩ = true := decide_eq_true ⟨by simp, by simp, h0, ht, by simp, by simp⟩
 have hl : lastR ⟨t, 0, 1⟩ = t := by simp [lastR]
 have hB : runB ⟨t, 0, 1⟩ true = true := by
  simp only [runB, hl, Bool.and_eq_true, beq_iff_eq, decide_eq_decide, decide_eq_true_eq, Bool.or_true, and_true]
  exact ⟨by simp, ht⟩
 refine ⟨by simp [risesL, hA, hB, runC], by simp [timesR, timesOf], by simp [manyR], by simp [lastR]⟩
end Go.Yb
