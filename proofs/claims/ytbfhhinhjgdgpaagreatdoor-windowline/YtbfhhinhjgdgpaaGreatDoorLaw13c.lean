/-
  A part of the proof of windowLine_holds: see the text that holds it. No conditions of its own.
-/
import Derived.Test.YtbfhhinhjgdgpaaGreatDoorLaw13b
namespace Go.Yb
open Go Go.Proofs Go.RowKit

theorem bothE_n {l : List Pt} {eps : Int} (h : pointsM l = false) : bothE l eps = 230 := by simp [bothE, h]
theorem bothE_e {l : List Pt} {eps : Int} (h : pointsM l = true) (h2 : epsM eps = false) : bothE l eps = 231 := by simp [bothE, h, h2]
theorem bothE_y {l : List Pt} {eps : Int} (h : pointsM l = true) (h2 : epsM eps = true) : bothE l eps = 0 := by simp [bothE, h, h2]
end Go.Yb
