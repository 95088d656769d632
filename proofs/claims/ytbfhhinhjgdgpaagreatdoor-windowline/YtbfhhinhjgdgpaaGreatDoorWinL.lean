/-
  A part of the proof of windowLine_holds: see the text that holds it. No conditions of its own.
-/
import Derived.Test.YtbfhhinhjgdgpaaGreatDoorLaw13b
namespace Go.Yb
open Go Go.Proofs Go.RowKit
/-! a line within every band: then the slide takes them all -/
theorem within_t {c : Lin} {dt lo hi : Int} (h : withinM c dt lo hi = true) : slopeM ⟨c.N, c.D⟩ = true ∧ 1 ≤ c.D ∧ c.D * lo ≤ c.N * dt + c.R + c.A * c.D ∧ c.N * dt + c.R + c.A * c.D ≤ c.D * hi := by
 simp only [withinM, lineM, Bool.and_eq_true, Bool.or_eq_true, decide_eq_true_eq] at h
 obtain ⟨⟨⟨⟨⟨⟨⟨_, hs⟩, _⟩, _⟩, _⟩, _⟩, hlo⟩, hhi⟩ := h
 have hD : 1 ≤ c.D := (slopeM_t hs).1
 have e := Int.mul_ediv_add_emod (c.N * dt + c.R) c.D
 have r0 := Int.emod_nonneg (c.N * dt + c.R) (show c.D ≠ 0 by omega)
 have r1 := Int.emod_lt_of_pos (c.N * dt + c.R) (show 0 < c.D by omega)
 unfold overM restM at *
 generalize (c.N * dt + c.R) / c.D = q at *
 generalize (c.N * dt + c.R) % c.D = r at *
 refine ⟨hs, hD, ?_, ?_⟩
 ·have h1 : c.D * lo ≤ c.D * (q + c.A) := Int.mul_le_mul_of_nonneg_left hlo (by omega)
  rw [Int.mul_add, Int.mul_comm c.D c.A] at h1
  omega
 ·rcases hhi with hh | ⟨hh, hr⟩
  ·have h1 : c.D * (q + c.A + 1) ≤ c.D * hi := Int.mul_le_mul_of_nonneg_left (by omega) (by omega)
   rw [Int.mul_add, Int.mul_add, Int.mul_comm c.D c.A] at h1
   omega
  ·have h1 : c.D * (q + c.A) = c.D * hi := by rw [hh]
   rw [Int.mul_add, Int.mul_comm c.D c.A] at h1
   omega
/-- what two bands let has the line's slope in it -/
theorem let_in {c : Lin} {t0 : Int} {a b : Bnd} (ha : withinM c (a.T - t0) a.Lo a.Hi = true) (hb : withinM c (b.T - t0) b.Lo b.Hi = true) :
  (letM b a).1.N * c.D ≤ c.N * (letM b a).1.D ∧ c.N * (letM b a).2.D ≤ (letM b a).2.N * c.D := by
 obtain ⟨_, _, a1, a2⟩ := within_t ha
 obtain ⟨_, _, b1, b2⟩ := within_t hb
 simp only [letM]
 rw [Int.mul_sub] at a1 a2 b1 b2
 rw [Int.sub_mul, Int.sub_mul, Int.mul_sub, Int.mul_comm b.Lo, Int.mul_comm b.Hi, Int.mul_comm a.Lo, Int.mul_comm a.Hi]
 omega
/-- both bounds are slopes, and the line's slope is between them -/
def Has2 (c : Lin) (u : SS) : Prop := slopeM u.1 = true ∧ slopeM u.2 = true ∧ u.1.N * c.D ≤ c.N * u.1.D ∧ c.N * u.2.D ≤ u.2.N * c.D
theorem has_next {c : Lin} : ∀ (l : List SS) (u : SS), Has2 c u → (∀ s ∈ l, Has2 c s) → Has2 c (l.foldl nextStep u)
  | [], _, h, _ => h
  | s :: l, u, h, hl => by
    have hs := hl s List.mem_cons_self
    refine has_next l (nextStep u s) ?_ fun x hx => hl x (List.mem_cons_of_mem _ hx)
    obtain ⟨h1, h2, h3, h4⟩ := h
    obtain ⟨s1, s2, s3, s4⟩ := hs
    simp only [nextStep, Has2]
    refine ⟨?_, ?_, ?_, ?_⟩ <;> split <;> assumption
theorem between {c a b : Slo} (hc : 1 ≤ c.D) (ha : 1 ≤ a.D) (hb : 1 ≤ b.D) (h1 : a.N * c.D ≤ c.N * a.D) (h2 : c.N * b.D ≤ b.N * c.D) : a.N * b.D ≤ b.N * a.D := by
 have e1 : (a.N * c.D) * b.D ≤ (c.N * a.D) * b.D := Int.mul_le_mul_of_nonneg_right h1 (by omega)
 have e2 : (c.N * b.D) * a.D ≤ (b.N * c.D) * a.D := Int.mul_le_mul_of_nonneg_right h2 (by omega)
 have e3 : (a.N * b.D) * c.D ≤ (b.N * a.D) * c.D := by
  have x1 : (a.N * b.D) * c.D = (a.N * c.D) * b.D := by rw [Int.mul_assoc, Int.mul_comm b.D, ← Int.mul_assoc]
  have x2 : (b.N * a.D) * c.D = (b.N * c.D) * a.D := by rw [Int.mul_assoc, Int.mul_comm a.D, ← Int.mul_assoc]
  have x3 : (c.N * a.D) * b.D = (c.N * b.D) * a.D := by rw [Int.mul_assoc, Int.mul_comm a.D, ← Int.mul_assoc]
  rw [x1, x2]; omega
 exact Int.le_of_mul_le_mul_right e3 (by omega)
theorem take_has {c : Lin} {t0 : Int} {u : SS} {tk : List Bnd} {b : Bnd} (hc : 1 ≤ c.D) (hu : Has2 c u) (ht : BndsOk tk) (hb : BndOk b) (hl : ∀ a ∈ tk, a.T < b.T)
  (hw : ∀ a ∈ tk, withinM c (a.T - t0) a.Lo a.Hi = true) (hwb : withinM c (b.T - t0) b.Lo b.Hi = true) : ftakeM u tk b = some (nextM u tk b) ∧ Has2 c (nextM u tk b) := by
 have hn : Has2 c (nextM u tk b) := has_next (letsM tk b) u hu (fun s hs => by
  obtain ⟨a, ha, rfl⟩ := List.mem_map.1 hs
  have h1 := letM_ok (ht a ha) hb (hl a ha)
  have h2 := let_in (hw a ha) hwb
  exact ⟨h1.1, h1.2, h2.1, h2.2⟩)
 refine ⟨?_, hn⟩
 unfold ftakeM
 rw [if_neg]
 have := between (c := ⟨c.N, c.D⟩) hc (slopeM_t hn.1).1 (slopeM_t hn.2.1).1 hn.2.2.1 hn.2.2.2
 unfold cmpL
 rw [hn.1, hn.2.1]
 simp only [Bool.and_self, if_true, cmpS]
 have h2 := cmpI_cases ((nextM u tk b).2.N * (nextM u tk b).1.D) ((nextM u tk b).1.N * (nextM u tk b).2.D)
 omega
theorem long_has {c : Lin} {t0 : Int} (hc : 1 ≤ c.D) : ∀ (l : List Bnd) (u : SS) (tk : List Bnd) (last : Int), Has2 c u → BndsOk tk → (∀ a ∈ tk, a.T ≤ last) → chkB last l = true → BndsOk l →
    (∀ a ∈ tk, withinM c (a.T - t0) a.Lo a.Hi = true) → (∀ a ∈ l, withinM c (a.T - t0) a.Lo a.Hi = true) → (slongM u tk l).2 = tk ++ l
  | [], u, tk, last, _, _, _, _, _, _, _ => by simp [slongM]
  | b :: bs, u, tk, last, hu, ht, hl, hk, hb, hw, hwl => by
    have hbb := hb b List.mem_cons_self
    simp only [chkB, Bool.and_eq_true] at hk
    have hlt := (okB_t hk.1).1
    have h := take_has hc hu ht hbb (fun a ha => by have := hl a ha; omega) hw (hwl b List.mem_cons_self)
    have hs : (ftakeM u tk b).isSome = true := by rw [h.1]; rfl
    rw [slong_y hs, ftakeT_y hs]
    have hU : ftakeU u tk b = nextM u tk b := by simp [ftakeU, h.1]
    rw [hU]
    have := long_has hc bs (nextM u tk b) (tk ++ [b]) b.T h.2 (bnds_push ht hbb) (fun a ha => by
      rcases List.mem_append.1 ha with ha | ha
      · have := hl a ha; omega
      · rw [List.mem_singleton.1 ha]; exact Int.le_refl _) hk.2 (fun x hx => hb x (List.mem_cons_of_mem _ hx)) (fun a ha => by
      rcases List.mem_append.1 ha with ha | ha
      · exact hw a ha
      · rw [List.mem_singleton.1 ha]; exact hwl b List.mem_cons_self) (fun a ha => hwl a (List.mem_cons_of_mem _ ha))
    rw [this, List.append_assoc]; rfl
theorem fit_all {c : Lin} {t0 : Int} {l : List Bnd} (hl : bandsM l = true) (hw : ∀ a ∈ l, withinM c (a.T - t0) a.Lo a.Hi = true) : (sfitM l).2 = l := by
 have hk : chkB (-1) l = true := by simp only [bandsM, Bool.and_eq_true] at hl; exact hl.2
 have h1 : 1 ≤ l.length := (bandsM_len hl).1
 cases l with
 | nil => simp at h1
 | cons b bs =>
  obtain ⟨hs, hD, _, _⟩ := within_t (hw b List.mem_cons_self)
  have hs2 := slopeM_t hs
  dsimp only at hs2
  have := long_has (c := c) (t0 := t0) hD (b :: bs) all0 [] (-1) ⟨by decide, by decide, by simp only [all0]; omega, by simp only [all0]; omega⟩ (fun b hb => by cases hb) (fun b hb => by cases hb) hk (bnds_ok hl) (fun b hb => by cases hb) hw
  rw [show (sfitM (b :: bs)).2 = (slongM all0 [] (b :: bs)).2 from rfl, this]; rfl
theorem cut_one {l : List Bnd} (h1 : 1 ≤ l.length) (h : (sfitM l).2 = l) : (cutL l).length = 1 := by
 cases l with
 | nil => simp at h1
 | cons b bs =>
  simp only [cutL, List.length_cons, cutLF, h]
  rw [List.drop_eq_nil_of_le (by simp)]
  cases bs.length <;> simp [cutLF]
theorem made3_len {l : List Pt} {eps : Int} : (madeW3 l eps).length = (cutL (l.map (bandP eps))).length := by
 simp [madeW3, partsM_len, cutW3, lens]
theorem made3_any {l : List Pt} {eps : Int} (h : 1 ≤ l.length) : 1 ≤ (madeW3 l eps).length ∧ (madeW3 l eps).length ≤ l.length := by
 have h1 := cutOk_len (cutW3_ok l eps)
 have h2 : (madeW3 l eps).length = (cutW3 l eps).length := by simp [madeW3, partsM_len]
 refine ⟨?_, by omega⟩
 have h3 := (cutW3_ok l eps).2
 cases h4 : cutW3 l eps with
 | nil => rw [h4] at h3; simp [sumN] at h3; omega
 | cons x xs => rw [h2, h4]; simp
end Go.Yb
