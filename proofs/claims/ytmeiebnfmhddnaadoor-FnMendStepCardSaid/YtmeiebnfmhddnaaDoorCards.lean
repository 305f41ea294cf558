/-
  DERIVED. GIVEN WITH THE SEED: THE CARDS: each row of YtmeiebnfmhddnaaDoorRows.lean that lists a variable, with what it lists TIED to the program's text (the seventh form; the later family's looks); each row that meets fmt, with fmt's text TOLD by the authors' own Lean function (tested against real Go, not proved from fmt's source: count such statements apart). THE CARD IS WHAT COUNTS. Prove the row's statement (the work); the ties are given (YtmeiebnfmhddnaaDoorTie.lean); close each card by the builder's one call (the guide's Derived/Test/ToyasCard.lean, 'card_holds'). Laid BY PROGRAM, IN A SANDBOX (cutbox-door.mjs). By AI agents, Wed Nov 11 2026. No macro, syntax, notation, axiom, sorry.
-/
import Derived.Test.YtmeiebnfmhddnaaDoorRows
import GoSem.ClaimSeven
namespace Go.Proofs.YtmeiebnfmhddnaaDoor
namespace Rows

/-- THE TIED CARD OF 'laws.FnMendStep'. -/
def fnMendStepCard : Claim7 := { stood := { row := fnMendStepRow, standIns := [], harness := (true, "b2b5ea40d50f477dbe89cd4654a9971e3bb948f9ce0a8e22311a7a178d25ead9"), looks := false }, kinds := [], alts := [], laidByText := true, laidKinds := [.data, .pinned], laidTests := true, laidLooks := .later }
def FnMendStepCardSaid : Prop := Claim7.holds Tryd.pinned (.plain (OpenSpec.ofChange fnMendStepSpec)) fnMendStepCard

/-- THE TIED CARD OF 'laws.FnPartsAll'. -/
def fnPartsAllCard : Claim7 := { stood := { row := fnPartsAllRow, standIns := [], harness := (true, "b2b5ea40d50f477dbe89cd4654a9971e3bb948f9ce0a8e22311a7a178d25ead9"), looks := false }, kinds := [], alts := [], laidByText := true, laidKinds := [.data, .pinned], laidTests := true, laidLooks := .later }
def FnPartsAllCardSaid : Prop := Claim7.holds Tryd.pinned (.plain (OpenSpec.ofChange fnPartsAllSpec)) fnPartsAllCard

/-- THE TIED CARD OF 'laws.FnStepsOf'. -/
def fnStepsOfCard : Claim7 := { stood := { row := fnStepsOfRow, standIns := [], harness := (true, "b2b5ea40d50f477dbe89cd4654a9971e3bb948f9ce0a8e22311a7a178d25ead9"), looks := false }, kinds := [], alts := [], laidByText := true, laidKinds := [.data, .data, .data, .data, .pinned], laidTests := true, laidLooks := .later }
def FnStepsOfCardSaid : Prop := Claim7.holds Tryd.pinned (.plain (OpenSpec.ofChange fnStepsOfSpec)) fnStepsOfCard

/-- THE TIED CARD OF 'laws.FnAutoBent'. -/
def fnAutoBentCard : Claim7 := { stood := { row := fnAutoBentRow, standIns := [], harness := (true, "b2b5ea40d50f477dbe89cd4654a9971e3bb948f9ce0a8e22311a7a178d25ead9"), looks := false }, kinds := [], alts := [], laidByText := true, laidKinds := [.data, .pinned], laidTests := true, laidLooks := .later }
def FnAutoBentCardSaid : Prop := Claim7.holds Tryd.pinned (.plain (OpenSpec.ofChange fnAutoBentSpec)) fnAutoBentCard

/-- THE SECOND FORM's CARD OF 'laws.FnMendStep'. -/
def fnMendStepUptoCard : Claim7 := { stood := { row := fnMendStepUptoRow, standIns := [], harness := (true, "b2b5ea40d50f477dbe89cd4654a9971e3bb948f9ce0a8e22311a7a178d25ead9"), looks := false }, kinds := [], alts := [], laidByText := true, laidKinds := [.data, .pinned], laidTests := true, laidLooks := .later }
def FnMendStepUptoCardSaid : Prop := Claim7.holds Tryd.pinned (.plain (OpenSpec.upto fnMendStepSpec)) fnMendStepUptoCard

/-- THE SECOND FORM's CARD OF 'laws.FnPartsAll'. -/
def fnPartsAllUptoCard : Claim7 := { stood := { row := fnPartsAllUptoRow, standIns := [], harness := (true, "b2b5ea40d50f477dbe89cd4654a9971e3bb948f9ce0a8e22311a7a178d25ead9"), looks := false }, kinds := [], alts := [], laidByText := true, laidKinds := [.data, .pinned], laidTests := true, laidLooks := .later }
def FnPartsAllUptoCardSaid : Prop := Claim7.holds Tryd.pinned (.plain (OpenSpec.upto fnPartsAllSpec)) fnPartsAllUptoCard

/-- THE SECOND FORM's CARD OF 'laws.FnStepsOf'. -/
def fnStepsOfUptoCard : Claim7 := { stood := { row := fnStepsOfUptoRow, standIns := [], harness := (true, "b2b5ea40d50f477dbe89cd4654a9971e3bb948f9ce0a8e22311a7a178d25ead9"), looks := false }, kinds := [], alts := [], laidByText := true, laidKinds := [.data, .data, .data, .data, .pinned], laidTests := true, laidLooks := .later }
def FnStepsOfUptoCardSaid : Prop := Claim7.holds Tryd.pinned (.plain (OpenSpec.upto fnStepsOfSpec)) fnStepsOfUptoCard

/-- THE SECOND FORM's CARD OF 'laws.FnAutoBent'. -/
def fnAutoBentUptoCard : Claim7 := { stood := { row := fnAutoBentUptoRow, standIns := [], harness := (true, "b2b5ea40d50f477dbe89cd4654a9971e3bb948f9ce0a8e22311a7a178d25ead9"), looks := false }, kinds := [], alts := [], laidByText := true, laidKinds := [.data, .pinned], laidTests := true, laidLooks := .later }
def FnAutoBentUptoCardSaid : Prop := Claim7.holds Tryd.pinned (.plain (OpenSpec.upto fnAutoBentSpec)) fnAutoBentUptoCard
end Rows
end Go.Proofs.YtmeiebnfmhddnaaDoor
