/-
  A part of the proof of windowLine_holds: see the text that holds it. No conditions of its own.
-/
import Derived.Test.YtbfhhinhjgdgpaaGreatDoorJoin
import Derived.Test.YtbfhhinhjgdgpaaGreatDoorWin5
import Derived.Test.YtbfhhinhjgdgpaaGreatDoorRows
import Derived.OpenShut
import Derived.LaidMore
import Derived.Lay
import Derived.ChangeOld
import Derived.Stop.Joined
/-! What the arguments' readings give the walks: a slice of points, the listed variable. -/
namespace Go.Proofs.YtbfhhinhjgdgpaaGreatDoor
open Go Go.Yb Go.ChangeShapes Go.WideShapes Go.ChangeAt Go.RowKit
theorem own : ownKnob Tryz.prog.godebug = none := by kernel_rfl
theorem laidOut : laidOutB Tryz.prog = true := by kernel_rfl
theorem gAll : Tryz.prog.globalNamed "yearbook/slide.all" = some 0 := by kernel_rfl
theorem tAll : (Tryz.prog.globals[0]?).map (·.type) = some 268 := by kernel_rfl
instance : Inhabited Pt := ⟨⟨0, 0⟩⟩
theorem c34 : Tryz.prog.cellsOf 34 = 2 := by kernel_rfl
theorem c2 : Tryz.prog.cellsOf 2 = 1 := by kernel_rfl
theorem c146 : Tryz.prog.cellsOf 146 = 2 := by kernel_rfl
theorem c268 : Tryz.prog.cellsOf 268 = 4 := by kernel_rfl

/-- the points of an argument -/
theorem read_pts {H : Type} {enc : TypeId × Value → H} {W : World} {fuel : Nat} {a : Option Addr} {len cap : Nat} {x : DataW H × List MemPlace}
  (h : DataW.trod enc Tryz.prog W 0 (fun _ => true) true fuel 22 [.slice a len cap] = some x) : ∃ ps : List Pt, ps.length = len ∧ Sl 2 a len cap (ps.map encT) (I0 W) := by
 rcases Go.Deep.open_slice Tryz.underlying22 h with ⟨h0, _⟩ | ⟨p, l, c, m, n, D, Pl, h0, _, hlc, hcm, hm, _, hel⟩
 ·simp only [List.cons.injEq, Value.slice.injEq, and_true] at h0
  obtain ⟨rfl, rfl, rfl⟩ := h0
  exact ⟨[], rfl, rfl, Nat.le_refl _, by unfold maxLen; omega, by simp⟩
 ·simp only [List.cons.injEq, Value.slice.injEq, and_true] at h0
  obtain ⟨rfl, rfl, rfl⟩ := h0
  have hml : len ≤ m := by rw [hm]; split <;> omega
  obtain ⟨q, hq⟩ := Go.Deep.choose_lt (α := Pt) (n := len) (p := fun i p' => ∀ j, j < 2 → W.cell? ((p.add (i * 2)).add j) = (encT p')[j]?) (fun i hi => by
   obtain ⟨cs, h1, h2⟩ := hel i (by omega)
   rw [c34] at h1
   obtain ⟨_, hlen, hcell⟩ := World.cells?_some h1
   obtain ⟨y0, y1, k, _, _, r0, r1⟩ := trod_struct2 Tryz.underlying34 h2
   simp only [c2] at r0 r1
   obtain ⟨t, e0, _, _⟩ := DataW.trod_int Tryz.underlying2 r0
   obtain ⟨v, e1, _, _⟩ := DataW.trod_int Tryz.underlying2 r1
   refine ⟨⟨t, v⟩, fun j hj => ?_⟩
   rw [hcell j hj]
   match cs, hlen with
   | [u0, u1], _ =>
    simp at e0 e1
    subst e0 e1
    match j, hj with
    | 0, _ => rfl
    | 1, _ => rfl)
  refine ⟨(List.range len).map q, by simp, ?_⟩
  refine sl_of_world (by decide) (by simp) hlc hcm fun i x hx => ?_
  have hi : i < len := by
   have := (List.getElem?_eq_some_iff.1 hx).1
   simpa using this
  simp only [List.getElem?_map, List.getElem?_range hi, Option.map_some, Option.some.injEq] at hx
  subst hx
  exact ⟨rfl, hq i hi⟩

theorem two_of_len {α : Type} {l : List α} (h : l.length = 2) : ∃ a b, l = [a, b] := by
 match l, h with
 | [a, b], _ => exact ⟨a, b, rfl⟩
theorem four_of_len {α : Type} {l : List α} (h : l.length = 4) : ∃ a b c d, l = [a, b, c, d] := by
 match l, h with
 | [a, b, c, d], _ => exact ⟨a, b, c, d, rfl⟩
/-- the listed variable -/
theorem read_all {W : World} (h : laidMetH Tryz.prog [("yearbook/slide.all", Rows.laid_yearbook_slide_all)] W) : ∃ E fr, W.heap[0]? = some (.cells (encSS all0).toArray E fr) := by
 rw [MakeChecks.laidMetH_plain _ _ _ (by kernel_rfl)] at h
 obtain ⟨ps, ⟨g, t, cs, fuel, p, q, hg, ht, hv, hd, _, _⟩, _, _⟩ := h
 obtain rfl := Option.some.inj (gAll.symm.trans hg)
 obtain rfl := Option.some.inj (tAll.symm.trans ht)
 obtain ⟨xs, m, _, ex, hlen, hl, hel⟩ := DataW.trod_array Tryz.underlying268 hd
 rw [c268] at hlen
 have h0 := hel 0 (by decide)
 have h1 := hel 1 (by decide)
 have c146' := c146
 simp only [c146'] at h0 h1
 obtain ⟨z0, z1, rfl⟩ := two_of_len hl
 simp only [List.getElem?_cons_zero, List.getElem?_cons_succ] at h0 h1
 simp only [Rows.laid_yearbook_slide_all, List.map_cons, List.map_nil, Prod.mk.injEq, DataW.agg.injEq, List.cons.injEq, and_true] at ex
 obtain ⟨⟨ex0, ex1⟩, _⟩ := ex
 obtain ⟨y0, y1, k, hz0, _, r0, r1⟩ := trod_struct2 Tryz.underlying146 h0
 obtain ⟨y2, y3, k', hz1, _, r2, r3⟩ := trod_struct2 Tryz.underlying146 h1
 simp only [c2] at r0 r1 r2 r3
 obtain ⟨n0, e0, f0, _⟩ := DataW.trod_int Tryz.underlying2 r0
 obtain ⟨n1, e1, f1, _⟩ := DataW.trod_int Tryz.underlying2 r1
 obtain ⟨n2, e2, f2, _⟩ := DataW.trod_int Tryz.underlying2 r2
 obtain ⟨n3, e3, f3, _⟩ := DataW.trod_int Tryz.underlying2 r3
 subst f0 f1 f2 f3
 subst hz0 hz1
 simp only [DataW.agg.injEq, List.cons.injEq, DataW.lit.injEq, Lit.int.injEq, true_and, and_true] at ex0 ex1
 obtain ⟨g0, g1⟩ := ex0
 obtain ⟨g2, g3⟩ := ex1
 subst g0 g1 g2 g3
 simp only [World.var?, gAll, Option.bind_some] at hv
 cases hb : W.heap[0]? with
 | none => rw [hb] at hv; cases hv
 | some o =>
  rw [hb] at hv
  cases o with
  | cells c E fr =>
   simp only [Option.some.injEq] at hv
   subst hv
   refine ⟨E, fr, ?_⟩
   obtain ⟨cl⟩ := c
   obtain ⟨u0, u1, u2, u3, rfl⟩ := four_of_len hlen
   simp at e0 e1 e2 e3
   subst e0 e1 e2 e3
   rfl
  | _ => cases hv
theorem imm_pts {W : World} {a : Option Addr} {c : Nat} {ps : List Pt} (h : Sl 2 a ps.length c (ps.map encT) (I0 W)) : ∃ p, rowI 2 encT ps a c = .imm p ∧ ∀ I', Imm.le (I0 W) I' → p I' := ⟨_, rfl, fun _ hI => h.le hI⟩
theorem imm_glob {W : World} (h : ∃ E fr, W.heap[0]? = some (.cells (encSS all0).toArray E fr)) : ∃ p, glob0 = .imm p ∧ ∀ I', Imm.le (I0 W) I' → p I' :=
  ⟨_, rfl, fun _ hI => by obtain ⟨E, fr, hb⟩ := h; exact ⟨E, fr, hI 0 _ hb⟩⟩
end Go.Proofs.YtbfhhinhjgdgpaaGreatDoor
