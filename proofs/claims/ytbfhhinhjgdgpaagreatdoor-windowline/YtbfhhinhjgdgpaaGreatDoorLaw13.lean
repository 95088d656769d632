/-
  A part of the proof of windowLine_holds: see the text that holds it. No conditions of its own.
-/
import Derived.Test.YtbfhhinhjgdgpaaGreatDoorWin5
namespace Go.Yb
open Go Go.Proofs Go.RowKit

def l4 : List Pt := [⟨0, 0⟩, ⟨1, 1⟩, ⟨2, 2⟩, ⟨3, 3⟩]
def s4 : Sg := ⟨2, [⟨0, 1, 4⟩], ⟨0, 0, 1, 1⟩, [], 0⟩
theorem wk0 : bothE l4 0 = 0 := by decide
theorem wk1 : (madeW 1 l4 0).length = 4 := by decide +kernel
theorem wk2 : bestM l4 0 = (2, [s4]) := by decide +kernel
theorem own_take {α : Type} (l : List α) (n : Nat) : l.take n = (l.drop 0).take (min l.length n - 0) := by
 rw [List.drop_zero, Nat.sub_zero]
 by_cases h : n ≤ l.length
 ·rw [Nat.min_eq_right h]
 ·rw [Nat.min_eq_left (by omega), List.take_of_length_le (by omega), List.take_of_length_le (Nat.le_refl _)]
theorem c_own (l : List Pt) (a : Option Addr) (c : Nat) : FnC Tryz.prog 10 #[.slice a l.length c] [rowI 2 encT l a c] (RetRow 2 encT (l.take 40)) := by
 refine FnC.go (m := 10) Tryz.func10 Tryz.ntmps10 rfl (Nat.le_of_ble_eq_true rfl) (fun Lf => ?_)
 refine Wr ?_
 refine Oy rfl (Yl.assign rfl) ?_
 refine OW.nil ?_
 refine Wr ?_
 refine OW.lit (is := []) (xs := []) (Wn.plain rfl) rfl rw_22 rfl rfl rfl (by decide) (by repeat constructor) (fun b1 => ?_)
 refine OW.ent (Ent.lit0 (sz := 2) encT) ?_
 refine Oy rfl (Yl.move rfl) ?_
 refine Oy rfl (Yl.move rfl) ?_
 refine Oy rfl (Yl.len ⟨Tryz.underlying22, Tryz.sizeOf34⟩ rfl) ?_
 refine Oy rfl (Yl.min2 rfl rfl) ?_
 refine OW.cutM (l := 0) (h := min l.length 40) (q := c) (l.take 40) (Wn.plain rfl) rfl ⟨Tryz.underlying22, Tryz.sizeOf34⟩ rfl .none (.some rfl (by omega)) .none rfl (by repeat constructor) (by exact own_take l 40) (by omega) (by omega) (by omega) (by omega) (fun a1 c1 => ?_)
 refine OW.appS  (Wn.plain rfl) rfl rw_22 rfl rfl (by repeat constructor) ⟨_, by repeat constructor⟩ (fun _ => rfl) (fun _ => by repeat constructor) (by simp; omega) (by simp; omega) (fun a2 c2 => ?_)
 refine Oy rfl (Yl.assign rfl) ?_
 refine OW.nil ?_
 refine W.ret ?_
 refine Fin.ent (Ent.sealP (f := encT) (E := 34) (sz := 2) (by repeat constructor) (fun _ => rfl)) ?_
 exact Fin.mk (Rsl.one rfl rfl) ⟨_, _, rfl, rfl⟩ (by repeat constructor) (by repeat constructor)
end Go.Yb
