/-
  NARROWER THAN 'FOR EVERY INPUT', by the rows' own cells (each row's printed sentence says how): WindowWays: laid · WindowLine: laid · WindowBands: laid · MergeTwo: laid · MergeHolds: laid · MergeOften: laid.
  DERIVED. THE GIVEN ROWS OF THIS SEAT. 6 by the template 'for every input the law returns true; each argument reads behind the call as it read before'; 0 by the template 'total and deterministic' (their statements: YtbfhhinhjgdgpaaGreatDoorTotals.lean).
  GIVEN WITH THE SEED: the statements are not yours to turn. If you find one false, say at which input.
  Laid BY PROGRAM, IN A SANDBOX (cutbox-rows.mjs): the forced cells as the released guide's own fill.sh prints them over the translation 0af73b7288c37b09… (all of the seat's roots in one cut). By AI agents, Wed Nov 11 2026. No macro, syntax, notation, axiom, sorry.
-/
import Derived.Test.YtbfhhinhjgdgpaaGreatDoorChecked
import GoSem.Claim
import GoSem.ClaimJoined
import GoSem.ClaimMapViews
import Derived.JoinedTies
import Derived.KernelRfl
namespace Go.Proofs.YtbfhhinhjgdgpaaGreatDoor
/- THE CELL 'sum', in the pinned program and in every row, IS THE sha256 OF THE DUMP (.gsa) THAT YtbfhhinhjgdgpaaGreatDoorProg.lean LOADS. Nothing in Lean hashes anything: it is a label: what it is worth is what the hold of that sum in a sandbox is worth. -/
noncomputable def Tryz.pinned : Pinned := { name := "ytbfhhinhjgdgpaagreatdoor", sum := "0af73b7288c37b09c814601bfe267d3d10f9f7b6f27a2d7561a80e192145ff29", checked := Tryz.checked }
namespace Rows
def none {H : Type} : Left H := { results := [], args := [] }

/- WHAT THE LISTED PACKAGE-LEVEL VARIABLES READ AS WHEN THE CALL BEGINS. Each datum BY PROGRAM (the guide's laid-datum.mjs) off the statement by which the dump's own 'gosem.cut.vars' lays the variable. In a bare row this is a premise. The card (YtbfhhinhjgdgpaaGreatDoorCards.lean) ties it to the program's text. -/
def laid_yearbook_slide_all {H : Type} : DataW H := .agg [.agg [.lit (.int .i64 (-4611688217450643456)), .lit (.int .i64 1)], .agg [.lit (.int .i64 4611688217450643456), .lit (.int .i64 1)]]

/-- 'yearbooklaw13.WindowWays': WHATEVER THE INPUT: true; the input reads as it did. -/
def windowWaysSpec : ChangeSpec := { name := "windowWays", fn := fun _ => fun
  | [d1, d2, d3] => { results := [.lit (.bool true)], args := [d1, d2, d3] }
  | _ => none }
def windowWaysRow : OpenClaim := { program := "ytbfhhinhjgdgpaagreatdoor", sum := "0af73b7288c37b09c814601bfe267d3d10f9f7b6f27a2d7561a80e192145ff29", func := "yearbook/yearbooklaw13.WindowWays", spec := "windowWays", inPlace := ["math/bits.Sub64", "math/bits.Add64"], unfollowed := true, recurses := true, named := ["yearbook/slide.all", "math/bits.divideError", "math/bits.overflowError"], apart := false, laid := [("yearbook/slide.all", laid_yearbook_slide_all)] }
def WindowWaysSaid : Prop := windowWaysRow.holds Tryz.pinned (OpenSpec.ofChange windowWaysSpec)

/-- ITS FALSE NEIGHBOUR: 'it returns false'. Refute it at one input. -/
def windowWaysWrong : ChangeSpec := { name := "windowWays", fn := fun _ => fun
  | [d1, d2, d3] => { results := [.lit (.bool false)], args := [d1, d2, d3] }
  | _ => none }
def WindowWaysWrongFalsely : Prop := windowWaysRow.holds Tryz.pinned (OpenSpec.ofChange windowWaysWrong)

/-- 'yearbooklaw13.WindowLine': WHATEVER THE INPUT: true; the input reads as it did. -/
def windowLineSpec : ChangeSpec := { name := "windowLine", fn := fun _ => fun
  | [d1, d2, d3] => { results := [.lit (.bool true)], args := [d1, d2, d3] }
  | _ => none }
def windowLineRow : OpenClaim := { program := "ytbfhhinhjgdgpaagreatdoor", sum := "0af73b7288c37b09c814601bfe267d3d10f9f7b6f27a2d7561a80e192145ff29", func := "yearbook/yearbooklaw13.WindowLine", spec := "windowLine", inPlace := ["math/bits.Sub64", "math/bits.Add64"], unfollowed := true, recurses := true, named := ["yearbook/slide.all", "math/bits.divideError", "math/bits.overflowError"], apart := false, laid := [("yearbook/slide.all", laid_yearbook_slide_all)] }
def WindowLineSaid : Prop := windowLineRow.holds Tryz.pinned (OpenSpec.ofChange windowLineSpec)

/-- ITS FALSE NEIGHBOUR: 'it returns false'. Refute it at one input. -/
def windowLineWrong : ChangeSpec := { name := "windowLine", fn := fun _ => fun
  | [d1, d2, d3] => { results := [.lit (.bool false)], args := [d1, d2, d3] }
  | _ => none }
def WindowLineWrongFalsely : Prop := windowLineRow.holds Tryz.pinned (OpenSpec.ofChange windowLineWrong)

/-- 'yearbooklaw13.WindowBands': WHATEVER THE INPUT: true; the input reads as it did. -/
def windowBandsSpec : ChangeSpec := { name := "windowBands", fn := fun _ => fun
  | [d1, d2] => { results := [.lit (.bool true)], args := [d1, d2] }
  | _ => none }
def windowBandsRow : OpenClaim := { program := "ytbfhhinhjgdgpaagreatdoor", sum := "0af73b7288c37b09c814601bfe267d3d10f9f7b6f27a2d7561a80e192145ff29", func := "yearbook/yearbooklaw13.WindowBands", spec := "windowBands", inPlace := ["math/bits.Sub64", "math/bits.Add64"], unfollowed := true, recurses := true, named := ["yearbook/slide.all", "math/bits.divideError", "math/bits.overflowError"], apart := false, laid := [("yearbook/slide.all", laid_yearbook_slide_all)] }
def WindowBandsSaid : Prop := windowBandsRow.holds Tryz.pinned (OpenSpec.ofChange windowBandsSpec)

/-- ITS FALSE NEIGHBOUR: 'it returns false'. Refute it at one input. -/
def windowBandsWrong : ChangeSpec := { name := "windowBands", fn := fun _ => fun
  | [d1, d2] => { results := [.lit (.bool false)], args := [d1, d2] }
  | _ => none }
def WindowBandsWrongFalsely : Prop := windowBandsRow.holds Tryz.pinned (OpenSpec.ofChange windowBandsWrong)

/-- 'yearbooklaw14.MergeTwo': WHATEVER THE INPUT: true; the input reads as it did. -/
def mergeTwoSpec : ChangeSpec := { name := "mergeTwo", fn := fun _ => fun
  | [d1, d2, d3] => { results := [.lit (.bool true)], args := [d1, d2, d3] }
  | _ => none }
def mergeTwoRow : OpenClaim := { program := "ytbfhhinhjgdgpaagreatdoor", sum := "0af73b7288c37b09c814601bfe267d3d10f9f7b6f27a2d7561a80e192145ff29", func := "yearbook/yearbooklaw14.MergeTwo", spec := "mergeTwo", inPlace := ["math/bits.Add64", "math/bits.Sub64"], unfollowed := true, recurses := true, named := ["math/bits.divideError", "math/bits.overflowError", "yearbook/slide.all"], apart := false, laid := [("yearbook/slide.all", laid_yearbook_slide_all)] }
def MergeTwoSaid : Prop := mergeTwoRow.holds Tryz.pinned (OpenSpec.ofChange mergeTwoSpec)

/-- ITS FALSE NEIGHBOUR: 'it returns false'. Refute it at one input. -/
def mergeTwoWrong : ChangeSpec := { name := "mergeTwo", fn := fun _ => fun
  | [d1, d2, d3] => { results := [.lit (.bool false)], args := [d1, d2, d3] }
  | _ => none }
def MergeTwoWrongFalsely : Prop := mergeTwoRow.holds Tryz.pinned (OpenSpec.ofChange mergeTwoWrong)

/-- 'yearbooklaw14.MergeHolds': WHATEVER THE INPUT: true; the input reads as it did. -/
def mergeHoldsSpec : ChangeSpec := { name := "mergeHolds", fn := fun _ => fun
  | [d1, d2, d3] => { results := [.lit (.bool true)], args := [d1, d2, d3] }
  | _ => none }
def mergeHoldsRow : OpenClaim := { program := "ytbfhhinhjgdgpaagreatdoor", sum := "0af73b7288c37b09c814601bfe267d3d10f9f7b6f27a2d7561a80e192145ff29", func := "yearbook/yearbooklaw14.MergeHolds", spec := "mergeHolds", inPlace := ["math/bits.Add64", "math/bits.Sub64"], unfollowed := true, recurses := true, named := ["math/bits.divideError", "math/bits.overflowError", "yearbook/slide.all"], apart := false, laid := [("yearbook/slide.all", laid_yearbook_slide_all)] }
def MergeHoldsSaid : Prop := mergeHoldsRow.holds Tryz.pinned (OpenSpec.ofChange mergeHoldsSpec)

/-- ITS FALSE NEIGHBOUR: 'it returns false'. Refute it at one input. -/
def mergeHoldsWrong : ChangeSpec := { name := "mergeHolds", fn := fun _ => fun
  | [d1, d2, d3] => { results := [.lit (.bool false)], args := [d1, d2, d3] }
  | _ => none }
def MergeHoldsWrongFalsely : Prop := mergeHoldsRow.holds Tryz.pinned (OpenSpec.ofChange mergeHoldsWrong)

/-- 'yearbooklaw14.MergeOften': WHATEVER THE INPUT: true; the input reads as it did. -/
def mergeOftenSpec : ChangeSpec := { name := "mergeOften", fn := fun _ => fun
  | [d1, d2, d3] => { results := [.lit (.bool true)], args := [d1, d2, d3] }
  | _ => none }
def mergeOftenRow : OpenClaim := { program := "ytbfhhinhjgdgpaagreatdoor", sum := "0af73b7288c37b09c814601bfe267d3d10f9f7b6f27a2d7561a80e192145ff29", func := "yearbook/yearbooklaw14.MergeOften", spec := "mergeOften", inPlace := ["math/bits.Add64", "math/bits.Sub64"], unfollowed := true, recurses := true, named := ["math/bits.divideError", "math/bits.overflowError", "yearbook/slide.all"], apart := false, laid := [("yearbook/slide.all", laid_yearbook_slide_all)] }
def MergeOftenSaid : Prop := mergeOftenRow.holds Tryz.pinned (OpenSpec.ofChange mergeOftenSpec)

/-- ITS FALSE NEIGHBOUR: 'it returns false'. Refute it at one input. -/
def mergeOftenWrong : ChangeSpec := { name := "mergeOften", fn := fun _ => fun
  | [d1, d2, d3] => { results := [.lit (.bool false)], args := [d1, d2, d3] }
  | _ => none }
def MergeOftenWrongFalsely : Prop := mergeOftenRow.holds Tryz.pinned (OpenSpec.ofChange mergeOftenWrong)

/- THE SECOND FORM. 'bulk': how many values and letters a reading holds, each counted each time it is reached (what is shared counts as often as it is met; a slice's spare places count too). A statement '..UptoSaid' is the law's where the arguments, and the package variables that the reading takes, are together of bulk at most 1048576: NARROWER than '..Said'. Prove '..Said' where nothing that the law and all that it calls make is longer than what came in: it says more and counts as full. Else prove '..UptoSaid'. A law counts once. -/
mutual
def uptoBulk {H : Type} : DataW H → Nat
  | .lit (.string bytes) => bytes.length + 1
  | .lit _ => 1
  | .nil => 1
  | .ptr d => uptoBulk d + 1
  | .slice elems spare => uptoBulkAll elems + uptoBulkAll spare + 1
  | .agg parts => uptoBulkAll parts + 1
  | .iface _ d => uptoBulk d + 1
  | .map entries => uptoBulkEntries entries + 1
  | .held _ => 1
def uptoBulkAll {H : Type} : List (DataW H) → Nat
  | [] => 0
  | d :: r => uptoBulk d + uptoBulkAll r
def uptoBulkEntries {H : Type} : List (Lit × DataW H) → Nat
  | [] => 0
  | x :: r => uptoBulkEntry x + uptoBulkEntries r
def uptoBulkEntry {H : Type} : Lit × DataW H → Nat
  | (.string bytes, d) => bytes.length + uptoBulk d + 1
  | (_, d) => uptoBulk d + 1
 end
def uptoSmall : (H : Type) → List (DataW H) → Bool := fun _ ds => decide (uptoBulkAll ds ≤ 1048576)
def OpenSpec.upto (s : _root_.Go.ChangeSpec) : _root_.Go.OpenSpec := { _root_.Go.OpenSpec.ofChange s with cond := some uptoSmall }

/-- 'yearbooklaw13.WindowWays', WHERE WHAT IT READS IS OF BULK AT MOST 1048576: true; the input reads as it did. -/
def windowWaysUptoRow : OpenClaim := { program := "ytbfhhinhjgdgpaagreatdoor", sum := "0af73b7288c37b09c814601bfe267d3d10f9f7b6f27a2d7561a80e192145ff29", func := "yearbook/yearbooklaw13.WindowWays", spec := "windowWays", inPlace := ["math/bits.Sub64", "math/bits.Add64"], unfollowed := true, recurses := true, named := ["yearbook/slide.all", "math/bits.divideError", "math/bits.overflowError"], apart := false, laid := [("yearbook/slide.all", laid_yearbook_slide_all)], narrowed := true }
def WindowWaysUptoSaid : Prop := windowWaysUptoRow.holds Tryz.pinned (OpenSpec.upto windowWaysSpec)

/-- 'yearbooklaw13.WindowLine', WHERE WHAT IT READS IS OF BULK AT MOST 1048576: true; the input reads as it did. -/
def windowLineUptoRow : OpenClaim := { program := "ytbfhhinhjgdgpaagreatdoor", sum := "0af73b7288c37b09c814601bfe267d3d10f9f7b6f27a2d7561a80e192145ff29", func := "yearbook/yearbooklaw13.WindowLine", spec := "windowLine", inPlace := ["math/bits.Sub64", "math/bits.Add64"], unfollowed := true, recurses := true, named := ["yearbook/slide.all", "math/bits.divideError", "math/bits.overflowError"], apart := false, laid := [("yearbook/slide.all", laid_yearbook_slide_all)], narrowed := true }
def WindowLineUptoSaid : Prop := windowLineUptoRow.holds Tryz.pinned (OpenSpec.upto windowLineSpec)

/-- 'yearbooklaw13.WindowBands', WHERE WHAT IT READS IS OF BULK AT MOST 1048576: true; the input reads as it did. -/
def windowBandsUptoRow : OpenClaim := { program := "ytbfhhinhjgdgpaagreatdoor", sum := "0af73b7288c37b09c814601bfe267d3d10f9f7b6f27a2d7561a80e192145ff29", func := "yearbook/yearbooklaw13.WindowBands", spec := "windowBands", inPlace := ["math/bits.Sub64", "math/bits.Add64"], unfollowed := true, recurses := true, named := ["yearbook/slide.all", "math/bits.divideError", "math/bits.overflowError"], apart := false, laid := [("yearbook/slide.all", laid_yearbook_slide_all)], narrowed := true }
def WindowBandsUptoSaid : Prop := windowBandsUptoRow.holds Tryz.pinned (OpenSpec.upto windowBandsSpec)

/-- 'yearbooklaw14.MergeTwo', WHERE WHAT IT READS IS OF BULK AT MOST 1048576: true; the input reads as it did. -/
def mergeTwoUptoRow : OpenClaim := { program := "ytbfhhinhjgdgpaagreatdoor", sum := "0af73b7288c37b09c814601bfe267d3d10f9f7b6f27a2d7561a80e192145ff29", func := "yearbook/yearbooklaw14.MergeTwo", spec := "mergeTwo", inPlace := ["math/bits.Add64", "math/bits.Sub64"], unfollowed := true, recurses := true, named := ["math/bits.divideError", "math/bits.overflowError", "yearbook/slide.all"], apart := false, laid := [("yearbook/slide.all", laid_yearbook_slide_all)], narrowed := true }
def MergeTwoUptoSaid : Prop := mergeTwoUptoRow.holds Tryz.pinned (OpenSpec.upto mergeTwoSpec)

/-- 'yearbooklaw14.MergeHolds', WHERE WHAT IT READS IS OF BULK AT MOST 1048576: true; the input reads as it did. -/
def mergeHoldsUptoRow : OpenClaim := { program := "ytbfhhinhjgdgpaagreatdoor", sum := "0af73b7288c37b09c814601bfe267d3d10f9f7b6f27a2d7561a80e192145ff29", func := "yearbook/yearbooklaw14.MergeHolds", spec := "mergeHolds", inPlace := ["math/bits.Add64", "math/bits.Sub64"], unfollowed := true, recurses := true, named := ["math/bits.divideError", "math/bits.overflowError", "yearbook/slide.all"], apart := false, laid := [("yearbook/slide.all", laid_yearbook_slide_all)], narrowed := true }
def MergeHoldsUptoSaid : Prop := mergeHoldsUptoRow.holds Tryz.pinned (OpenSpec.upto mergeHoldsSpec)

/-- 'yearbooklaw14.MergeOften', WHERE WHAT IT READS IS OF BULK AT MOST 1048576: true; the input reads as it did. -/
def mergeOftenUptoRow : OpenClaim := { program := "ytbfhhinhjgdgpaagreatdoor", sum := "0af73b7288c37b09c814601bfe267d3d10f9f7b6f27a2d7561a80e192145ff29", func := "yearbook/yearbooklaw14.MergeOften", spec := "mergeOften", inPlace := ["math/bits.Add64", "math/bits.Sub64"], unfollowed := true, recurses := true, named := ["math/bits.divideError", "math/bits.overflowError", "yearbook/slide.all"], apart := false, laid := [("yearbook/slide.all", laid_yearbook_slide_all)], narrowed := true }
def MergeOftenUptoSaid : Prop := mergeOftenUptoRow.holds Tryz.pinned (OpenSpec.upto mergeOftenSpec)

end Rows
end Go.Proofs.YtbfhhinhjgdgpaaGreatDoor
