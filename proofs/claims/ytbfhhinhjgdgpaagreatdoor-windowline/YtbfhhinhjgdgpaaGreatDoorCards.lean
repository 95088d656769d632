/-
  DERIVED. GIVEN WITH THE SEED: THE CARDS: each row of YtbfhhinhjgdgpaaGreatDoorRows.lean that lists a variable, with what it lists TIED to the program's text (the seventh form; the later family's looks); each row that meets fmt, with fmt's text TOLD by the authors' own Lean function (tested against real Go, not proved from fmt's source: count such statements apart). THE CARD IS WHAT COUNTS. Prove the row's statement (the work); the ties are given (YtbfhhinhjgdgpaaGreatDoorTie.lean); close each card by the builder's one call (the guide's Derived/Test/ToyasCard.lean, 'card_holds'). Laid BY PROGRAM, IN A SANDBOX (cutbox-door.mjs). By AI agents, Wed Nov 11 2026. No macro, syntax, notation, axiom, sorry.
-/
import Derived.Test.YtbfhhinhjgdgpaaGreatDoorRows
import GoSem.ClaimSeven
namespace Go.Proofs.YtbfhhinhjgdgpaaGreatDoor
namespace Rows

/-- THE TIED CARD OF 'yearbooklaw13.WindowWays'. -/
def windowWaysCard : Claim7 := { stood := { row := windowWaysRow, standIns := [], harness := (true, "62ff42d52b4fa93cc13c16ab7e6309beaaea07dc7896ca36f5aeb6e8082af934"), looks := false }, kinds := [], alts := [], laidByText := true, laidKinds := [.data], laidTests := true, laidLooks := .later }
def WindowWaysCardSaid : Prop := Claim7.holds Tryz.pinned (.plain (OpenSpec.ofChange windowWaysSpec)) windowWaysCard

/-- THE TIED CARD OF 'yearbooklaw13.WindowLine'. -/
def windowLineCard : Claim7 := { stood := { row := windowLineRow, standIns := [], harness := (true, "62ff42d52b4fa93cc13c16ab7e6309beaaea07dc7896ca36f5aeb6e8082af934"), looks := false }, kinds := [], alts := [], laidByText := true, laidKinds := [.data], laidTests := true, laidLooks := .later }
def WindowLineCardSaid : Prop := Claim7.holds Tryz.pinned (.plain (OpenSpec.ofChange windowLineSpec)) windowLineCard

/-- THE TIED CARD OF 'yearbooklaw13.WindowBands'. -/
def windowBandsCard : Claim7 := { stood := { row := windowBandsRow, standIns := [], harness := (true, "62ff42d52b4fa93cc13c16ab7e6309beaaea07dc7896ca36f5aeb6e8082af934"), looks := false }, kinds := [], alts := [], laidByText := true, laidKinds := [.data], laidTests := true, laidLooks := .later }
def WindowBandsCardSaid : Prop := Claim7.holds Tryz.pinned (.plain (OpenSpec.ofChange windowBandsSpec)) windowBandsCard

/-- THE TIED CARD OF 'yearbooklaw14.MergeTwo'. -/
def mergeTwoCard : Claim7 := { stood := { row := mergeTwoRow, standIns := [], harness := (true, "62ff42d52b4fa93cc13c16ab7e6309beaaea07dc7896ca36f5aeb6e8082af934"), looks := false }, kinds := [], alts := [], laidByText := true, laidKinds := [.data], laidTests := true, laidLooks := .later }
def MergeTwoCardSaid : Prop := Claim7.holds Tryz.pinned (.plain (OpenSpec.ofChange mergeTwoSpec)) mergeTwoCard

/-- THE TIED CARD OF 'yearbooklaw14.MergeHolds'. -/
def mergeHoldsCard : Claim7 := { stood := { row := mergeHoldsRow, standIns := [], harness := (true, "62ff42d52b4fa93cc13c16ab7e6309beaaea07dc7896ca36f5aeb6e8082af934"), looks := false }, kinds := [], alts := [], laidByText := true, laidKinds := [.data], laidTests := true, laidLooks := .later }
def MergeHoldsCardSaid : Prop := Claim7.holds Tryz.pinned (.plain (OpenSpec.ofChange mergeHoldsSpec)) mergeHoldsCard

/-- THE TIED CARD OF 'yearbooklaw14.MergeOften'. -/
def mergeOftenCard : Claim7 := { stood := { row := mergeOftenRow, standIns := [], harness := (true, "62ff42d52b4fa93cc13c16ab7e6309beaaea07dc7896ca36f5aeb6e8082af934"), looks := false }, kinds := [], alts := [], laidByText := true, laidKinds := [.data], laidTests := true, laidLooks := .later }
def MergeOftenCardSaid : Prop := Claim7.holds Tryz.pinned (.plain (OpenSpec.ofChange mergeOftenSpec)) mergeOftenCard

/-- THE SECOND FORM's CARD OF 'yearbooklaw13.WindowWays'. -/
def windowWaysUptoCard : Claim7 := { stood := { row := windowWaysUptoRow, standIns := [], harness := (true, "62ff42d52b4fa93cc13c16ab7e6309beaaea07dc7896ca36f5aeb6e8082af934"), looks := false }, kinds := [], alts := [], laidByText := true, laidKinds := [.data], laidTests := true, laidLooks := .later }
def WindowWaysUptoCardSaid : Prop := Claim7.holds Tryz.pinned (.plain (OpenSpec.upto windowWaysSpec)) windowWaysUptoCard

/-- THE SECOND FORM's CARD OF 'yearbooklaw13.WindowLine'. -/
def windowLineUptoCard : Claim7 := { stood := { row := windowLineUptoRow, standIns := [], harness := (true, "62ff42d52b4fa93cc13c16ab7e6309beaaea07dc7896ca36f5aeb6e8082af934"), looks := false }, kinds := [], alts := [], laidByText := true, laidKinds := [.data], laidTests := true, laidLooks := .later }
def WindowLineUptoCardSaid : Prop := Claim7.holds Tryz.pinned (.plain (OpenSpec.upto windowLineSpec)) windowLineUptoCard

/-- THE SECOND FORM's CARD OF 'yearbooklaw13.WindowBands'. -/
def windowBandsUptoCard : Claim7 := { stood := { row := windowBandsUptoRow, standIns := [], harness := (true, "62ff42d52b4fa93cc13c16ab7e6309beaaea07dc7896ca36f5aeb6e8082af934"), looks := false }, kinds := [], alts := [], laidByText := true, laidKinds := [.data], laidTests := true, laidLooks := .later }
def WindowBandsUptoCardSaid : Prop := Claim7.holds Tryz.pinned (.plain (OpenSpec.upto windowBandsSpec)) windowBandsUptoCard

/-- THE SECOND FORM's CARD OF 'yearbooklaw14.MergeTwo'. -/
def mergeTwoUptoCard : Claim7 := { stood := { row := mergeTwoUptoRow, standIns := [], harness := (true, "62ff42d52b4fa93cc13c16ab7e6309beaaea07dc7896ca36f5aeb6e8082af934"), looks := false }, kinds := [], alts := [], laidByText := true, laidKinds := [.data], laidTests := true, laidLooks := .later }
def MergeTwoUptoCardSaid : Prop := Claim7.holds Tryz.pinned (.plain (OpenSpec.upto mergeTwoSpec)) mergeTwoUptoCard

/-- THE SECOND FORM's CARD OF 'yearbooklaw14.MergeHolds'. -/
def mergeHoldsUptoCard : Claim7 := { stood := { row := mergeHoldsUptoRow, standIns := [], harness := (true, "62ff42d52b4fa93cc13c16ab7e6309beaaea07dc7896ca36f5aeb6e8082af934"), looks := false }, kinds := [], alts := [], laidByText := true, laidKinds := [.data], laidTests := true, laidLooks := .later }
def MergeHoldsUptoCardSaid : Prop := Claim7.holds Tryz.pinned (.plain (OpenSpec.upto mergeHoldsSpec)) mergeHoldsUptoCard

/-- THE SECOND FORM's CARD OF 'yearbooklaw14.MergeOften'. -/
def mergeOftenUptoCard : Claim7 := { stood := { row := mergeOftenUptoRow, standIns := [], harness := (true, "62ff42d52b4fa93cc13c16ab7e6309beaaea07dc7896ca36f5aeb6e8082af934"), looks := false }, kinds := [], alts := [], laidByText := true, laidKinds := [.data], laidTests := true, laidLooks := .later }
def MergeOftenUptoCardSaid : Prop := Claim7.holds Tryz.pinned (.plain (OpenSpec.upto mergeOftenSpec)) mergeOftenUptoCard
end Rows
end Go.Proofs.YtbfhhinhjgdgpaaGreatDoor
