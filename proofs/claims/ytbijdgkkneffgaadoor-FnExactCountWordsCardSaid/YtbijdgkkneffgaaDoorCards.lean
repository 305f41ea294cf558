/-
  DERIVED. GIVEN WITH THE SEED: THE CARDS: each row of YtbijdgkkneffgaaDoorRows.lean that lists a variable, with what it lists TIED to the program's text (the seventh form; the later family's looks); each row that meets fmt, with fmt's text TOLD by the authors' own Lean function (tested against real Go, not proved from fmt's source: count such statements apart). THE CARD IS WHAT COUNTS. Prove the row's statement (the work); the ties are given (YtbijdgkkneffgaaDoorTie.lean); close each card by the builder's one call (the guide's Derived/Test/ToyasCard.lean, 'card_holds'). Laid BY PROGRAM, IN A SANDBOX (cutbox-door.mjs). By AI agents, Wed Nov 11 2026. No macro, syntax, notation, axiom, sorry.
-/
import Derived.Test.YtbijdgkkneffgaaDoorRows
import GoSem.ClaimSeven
namespace Go.Proofs.YtbijdgkkneffgaaDoor
namespace Rows

/-- THE TIED CARD OF 'laws.FnAllParts'. -/
def fnAllPartsCard : Claim7 := { stood := { row := fnAllPartsRow, standIns := [], harness := (true, "afe0db229758acd0e06c227d963a51e64e5af1f210eef7478b6e328a9fafc955"), looks := false }, kinds := [], alts := [], laidByText := true, laidKinds := [.data, .pinned], laidTests := true, laidLooks := .later }
def FnAllPartsCardSaid : Prop := Claim7.holds Tryd.pinned (.plain (OpenSpec.ofChange fnAllPartsSpec)) fnAllPartsCard

/-- THE TIED CARD OF 'laws.FnPartsAll'. -/
def fnPartsAllCard : Claim7 := { stood := { row := fnPartsAllRow, standIns := [], harness := (true, "afe0db229758acd0e06c227d963a51e64e5af1f210eef7478b6e328a9fafc955"), looks := false }, kinds := [], alts := [], laidByText := true, laidKinds := [.data, .pinned], laidTests := true, laidLooks := .later }
def FnPartsAllCardSaid : Prop := Claim7.holds Tryd.pinned (.plain (OpenSpec.ofChange fnPartsAllSpec)) fnPartsAllCard

/-- THE TIED CARD OF 'laws.FnMendStep'. -/
def fnMendStepCard : Claim7 := { stood := { row := fnMendStepRow, standIns := [], harness := (true, "afe0db229758acd0e06c227d963a51e64e5af1f210eef7478b6e328a9fafc955"), looks := false }, kinds := [], alts := [], laidByText := true, laidKinds := [.data, .pinned], laidTests := true, laidLooks := .later }
def FnMendStepCardSaid : Prop := Claim7.holds Tryd.pinned (.plain (OpenSpec.ofChange fnMendStepSpec)) fnMendStepCard

/-- THE TIED CARD OF 'laws.FnAutoBent'. -/
def fnAutoBentCard : Claim7 := { stood := { row := fnAutoBentRow, standIns := [], harness := (true, "afe0db229758acd0e06c227d963a51e64e5af1f210eef7478b6e328a9fafc955"), looks := false }, kinds := [], alts := [], laidByText := true, laidKinds := [.data, .pinned], laidTests := true, laidLooks := .later }
def FnAutoBentCardSaid : Prop := Claim7.holds Tryd.pinned (.plain (OpenSpec.ofChange fnAutoBentSpec)) fnAutoBentCard

/-- THE TIED CARD OF 'laws.FnStepsOf'. -/
def fnStepsOfCard : Claim7 := { stood := { row := fnStepsOfRow, standIns := [], harness := (true, "afe0db229758acd0e06c227d963a51e64e5af1f210eef7478b6e328a9fafc955"), looks := false }, kinds := [], alts := [], laidByText := true, laidKinds := [.data, .data, .data, .data, .pinned], laidTests := true, laidLooks := .later }
def FnStepsOfCardSaid : Prop := Claim7.holds Tryd.pinned (.plain (OpenSpec.ofChange fnStepsOfSpec)) fnStepsOfCard

/-- THE TIED CARD OF 'laws.FnExactCountWords'. -/
def fnExactCountWordsCard : Claim7 := { stood := { row := fnExactCountWordsRow, standIns := [], harness := (true, "afe0db229758acd0e06c227d963a51e64e5af1f210eef7478b6e328a9fafc955"), looks := false }, kinds := [], alts := [], laidByText := true, laidKinds := [.data, .pinned], laidTests := true, laidLooks := .later }
def FnExactCountWordsCardSaid : Prop := Claim7.holds Tryd.pinned (.plain (OpenSpec.ofChange fnExactCountWordsSpec)) fnExactCountWordsCard

/-- THE TIED CARD OF 'laws.FnAllLonger'. -/
def fnAllLongerCard : Claim7 := { stood := { row := fnAllLongerRow, standIns := [], harness := (true, "afe0db229758acd0e06c227d963a51e64e5af1f210eef7478b6e328a9fafc955"), looks := false }, kinds := [], alts := [], laidByText := true, laidKinds := [.data, .pinned], laidTests := true, laidLooks := .later }
def FnAllLongerCardSaid : Prop := Claim7.holds Tryd.pinned (.plain (OpenSpec.ofChange fnAllLongerSpec)) fnAllLongerCard

/-- THE TIED CARD OF 'laws.FnAllWords'. -/
def fnAllWordsCard : Claim7 := { stood := { row := fnAllWordsRow, standIns := [], harness := (true, "afe0db229758acd0e06c227d963a51e64e5af1f210eef7478b6e328a9fafc955"), looks := false }, kinds := [], alts := [], laidByText := true, laidKinds := [.data, .pinned], laidTests := true, laidLooks := .later }
def FnAllWordsCardSaid : Prop := Claim7.holds Tryd.pinned (.plain (OpenSpec.ofChange fnAllWordsSpec)) fnAllWordsCard

/-- THE TIED CARD OF 'laws.FnCountSum'. -/
def fnCountSumCard : Claim7 := { stood := { row := fnCountSumRow, standIns := [], harness := (true, "afe0db229758acd0e06c227d963a51e64e5af1f210eef7478b6e328a9fafc955"), looks := false }, kinds := [], alts := [], laidByText := true, laidKinds := [.data, .pinned], laidTests := true, laidLooks := .later }
def FnCountSumCardSaid : Prop := Claim7.holds Tryd.pinned (.plain (OpenSpec.ofChange fnCountSumSpec)) fnCountSumCard

/-- THE TIED CARD OF 'laws.FnCountWords'. -/
def fnCountWordsCard : Claim7 := { stood := { row := fnCountWordsRow, standIns := [], harness := (true, "afe0db229758acd0e06c227d963a51e64e5af1f210eef7478b6e328a9fafc955"), looks := false }, kinds := [], alts := [], laidByText := true, laidKinds := [.data, .pinned], laidTests := true, laidLooks := .later }
def FnCountWordsCardSaid : Prop := Claim7.holds Tryd.pinned (.plain (OpenSpec.ofChange fnCountWordsSpec)) fnCountWordsCard

/-- THE SECOND FORM's CARD OF 'laws.FnAllParts'. -/
def fnAllPartsUptoCard : Claim7 := { stood := { row := fnAllPartsUptoRow, standIns := [], harness := (true, "afe0db229758acd0e06c227d963a51e64e5af1f210eef7478b6e328a9fafc955"), looks := false }, kinds := [], alts := [], laidByText := true, laidKinds := [.data, .pinned], laidTests := true, laidLooks := .later }
def FnAllPartsUptoCardSaid : Prop := Claim7.holds Tryd.pinned (.plain (OpenSpec.upto fnAllPartsSpec)) fnAllPartsUptoCard

/-- THE SECOND FORM's CARD OF 'laws.FnPartsAll'. -/
def fnPartsAllUptoCard : Claim7 := { stood := { row := fnPartsAllUptoRow, standIns := [], harness := (true, "afe0db229758acd0e06c227d963a51e64e5af1f210eef7478b6e328a9fafc955"), looks := false }, kinds := [], alts := [], laidByText := true, laidKinds := [.data, .pinned], laidTests := true, laidLooks := .later }
def FnPartsAllUptoCardSaid : Prop := Claim7.holds Tryd.pinned (.plain (OpenSpec.upto fnPartsAllSpec)) fnPartsAllUptoCard

/-- THE SECOND FORM's CARD OF 'laws.FnMendStep'. -/
def fnMendStepUptoCard : Claim7 := { stood := { row := fnMendStepUptoRow, standIns := [], harness := (true, "afe0db229758acd0e06c227d963a51e64e5af1f210eef7478b6e328a9fafc955"), looks := false }, kinds := [], alts := [], laidByText := true, laidKinds := [.data, .pinned], laidTests := true, laidLooks := .later }
def FnMendStepUptoCardSaid : Prop := Claim7.holds Tryd.pinned (.plain (OpenSpec.upto fnMendStepSpec)) fnMendStepUptoCard

/-- THE SECOND FORM's CARD OF 'laws.FnAutoBent'. -/
def fnAutoBentUptoCard : Claim7 := { stood := { row := fnAutoBentUptoRow, standIns := [], harness := (true, "afe0db229758acd0e06c227d963a51e64e5af1f210eef7478b6e328a9fafc955"), looks := false }, kinds := [], alts := [], laidByText := true, laidKinds := [.data, .pinned], laidTests := true, laidLooks := .later }
def FnAutoBentUptoCardSaid : Prop := Claim7.holds Tryd.pinned (.plain (OpenSpec.upto fnAutoBentSpec)) fnAutoBentUptoCard

/-- THE SECOND FORM's CARD OF 'laws.FnStepsOf'. -/
def fnStepsOfUptoCard : Claim7 := { stood := { row := fnStepsOfUptoRow, standIns := [], harness := (true, "afe0db229758acd0e06c227d963a51e64e5af1f210eef7478b6e328a9fafc955"), looks := false }, kinds := [], alts := [], laidByText := true, laidKinds := [.data, .data, .data, .data, .pinned], laidTests := true, laidLooks := .later }
def FnStepsOfUptoCardSaid : Prop := Claim7.holds Tryd.pinned (.plain (OpenSpec.upto fnStepsOfSpec)) fnStepsOfUptoCard

/-- THE SECOND FORM's CARD OF 'laws.FnExactCountWords'. -/
def fnExactCountWordsUptoCard : Claim7 := { stood := { row := fnExactCountWordsUptoRow, standIns := [], harness := (true, "afe0db229758acd0e06c227d963a51e64e5af1f210eef7478b6e328a9fafc955"), looks := false }, kinds := [], alts := [], laidByText := true, laidKinds := [.data, .pinned], laidTests := true, laidLooks := .later }
def FnExactCountWordsUptoCardSaid : Prop := Claim7.holds Tryd.pinned (.plain (OpenSpec.upto fnExactCountWordsSpec)) fnExactCountWordsUptoCard

/-- THE SECOND FORM's CARD OF 'laws.FnAllLonger'. -/
def fnAllLongerUptoCard : Claim7 := { stood := { row := fnAllLongerUptoRow, standIns := [], harness := (true, "afe0db229758acd0e06c227d963a51e64e5af1f210eef7478b6e328a9fafc955"), looks := false }, kinds := [], alts := [], laidByText := true, laidKinds := [.data, .pinned], laidTests := true, laidLooks := .later }
def FnAllLongerUptoCardSaid : Prop := Claim7.holds Tryd.pinned (.plain (OpenSpec.upto fnAllLongerSpec)) fnAllLongerUptoCard

/-- THE SECOND FORM's CARD OF 'laws.FnAllWords'. -/
def fnAllWordsUptoCard : Claim7 := { stood := { row := fnAllWordsUptoRow, standIns := [], harness := (true, "afe0db229758acd0e06c227d963a51e64e5af1f210eef7478b6e328a9fafc955"), looks := false }, kinds := [], alts := [], laidByText := true, laidKinds := [.data, .pinned], laidTests := true, laidLooks := .later }
def FnAllWordsUptoCardSaid : Prop := Claim7.holds Tryd.pinned (.plain (OpenSpec.upto fnAllWordsSpec)) fnAllWordsUptoCard

/-- THE SECOND FORM's CARD OF 'laws.FnCountSum'. -/
def fnCountSumUptoCard : Claim7 := { stood := { row := fnCountSumUptoRow, standIns := [], harness := (true, "afe0db229758acd0e06c227d963a51e64e5af1f210eef7478b6e328a9fafc955"), looks := false }, kinds := [], alts := [], laidByText := true, laidKinds := [.data, .pinned], laidTests := true, laidLooks := .later }
def FnCountSumUptoCardSaid : Prop := Claim7.holds Tryd.pinned (.plain (OpenSpec.upto fnCountSumSpec)) fnCountSumUptoCard

/-- THE SECOND FORM's CARD OF 'laws.FnCountWords'. -/
def fnCountWordsUptoCard : Claim7 := { stood := { row := fnCountWordsUptoRow, standIns := [], harness := (true, "afe0db229758acd0e06c227d963a51e64e5af1f210eef7478b6e328a9fafc955"), looks := false }, kinds := [], alts := [], laidByText := true, laidKinds := [.data, .pinned], laidTests := true, laidLooks := .later }
def FnCountWordsUptoCardSaid : Prop := Claim7.holds Tryd.pinned (.plain (OpenSpec.upto fnCountWordsSpec)) fnCountWordsUptoCard
end Rows
end Go.Proofs.YtbijdgkkneffgaaDoor
