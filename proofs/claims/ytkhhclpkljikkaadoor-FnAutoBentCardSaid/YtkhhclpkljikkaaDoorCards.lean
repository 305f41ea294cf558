/-
  DERIVED. GIVEN WITH THE SEED: THE CARDS: each row of YtkhhclpkljikkaaDoorRows.lean that lists a variable, with what it lists TIED to the program's text (the seventh form; the later family's looks); each row that meets fmt, with fmt's text TOLD by the authors' own Lean function (tested against real Go, not proved from fmt's source: count such statements apart). THE CARD IS WHAT COUNTS. Prove the row's statement (the work); the ties are given (YtkhhclpkljikkaaDoorTie.lean); close each card by the builder's one call (the guide's Derived/Test/ToyasCard.lean, 'card_holds'). Laid BY PROGRAM, IN A SANDBOX (cutbox-door.mjs). By AI agents, Wed Nov 11 2026. No macro, syntax, notation, axiom, sorry.
-/
import Derived.Test.YtkhhclpkljikkaaDoorRows
import GoSem.ClaimSeven
namespace Go.Proofs.YtkhhclpkljikkaaDoor
namespace Rows

/-- THE TIED CARD OF 'laws.FnPartsAll'. -/
def fnPartsAllCard : Claim7 := { stood := { row := fnPartsAllRow, standIns := [], harness := (true, "c338ab35d5a3b504b5535347292c17ddfd72c6043aa50a3c7d6504f7fbb766d8"), looks := false }, kinds := [], alts := [], laidByText := true, laidKinds := [.data, .pinned], laidTests := true, laidLooks := .later }
def FnPartsAllCardSaid : Prop := Claim7.holds Tryd.pinned (.plain (OpenSpec.ofChange fnPartsAllSpec)) fnPartsAllCard

/-- THE TIED CARD OF 'laws.FnStepsOf'. -/
def fnStepsOfCard : Claim7 := { stood := { row := fnStepsOfRow, standIns := [], harness := (true, "c338ab35d5a3b504b5535347292c17ddfd72c6043aa50a3c7d6504f7fbb766d8"), looks := false }, kinds := [], alts := [], laidByText := true, laidKinds := [.data, .data, .data, .data, .pinned], laidTests := true, laidLooks := .later }
def FnStepsOfCardSaid : Prop := Claim7.holds Tryd.pinned (.plain (OpenSpec.ofChange fnStepsOfSpec)) fnStepsOfCard

/-- THE TIED CARD OF 'laws.FnAutoBent'. -/
def fnAutoBentCard : Claim7 := { stood := { row := fnAutoBentRow, standIns := [], harness := (true, "c338ab35d5a3b504b5535347292c17ddfd72c6043aa50a3c7d6504f7fbb766d8"), looks := false }, kinds := [], alts := [], laidByText := true, laidKinds := [.data, .pinned], laidTests := true, laidLooks := .later }
def FnAutoBentCardSaid : Prop := Claim7.holds Tryd.pinned (.plain (OpenSpec.ofChange fnAutoBentSpec)) fnAutoBentCard

/-- THE SECOND FORM's CARD OF 'laws.FnPartsAll'. -/
def fnPartsAllUptoCard : Claim7 := { stood := { row := fnPartsAllUptoRow, standIns := [], harness := (true, "c338ab35d5a3b504b5535347292c17ddfd72c6043aa50a3c7d6504f7fbb766d8"), looks := false }, kinds := [], alts := [], laidByText := true, laidKinds := [.data, .pinned], laidTests := true, laidLooks := .later }
def FnPartsAllUptoCardSaid : Prop := Claim7.holds Tryd.pinned (.plain (OpenSpec.upto fnPartsAllSpec)) fnPartsAllUptoCard

/-- THE SECOND FORM's CARD OF 'laws.FnStepsOf'. -/
def fnStepsOfUptoCard : Claim7 := { stood := { row := fnStepsOfUptoRow, standIns := [], harness := (true, "c338ab35d5a3b504b5535347292c17ddfd72c6043aa50a3c7d6504f7fbb766d8"), looks := false }, kinds := [], alts := [], laidByText := true, laidKinds := [.data, .data, .data, .data, .pinned], laidTests := true, laidLooks := .later }
def FnStepsOfUptoCardSaid : Prop := Claim7.holds Tryd.pinned (.plain (OpenSpec.upto fnStepsOfSpec)) fnStepsOfUptoCard

/-- THE SECOND FORM's CARD OF 'laws.FnAutoBent'. -/
def fnAutoBentUptoCard : Claim7 := { stood := { row := fnAutoBentUptoRow, standIns := [], harness := (true, "c338ab35d5a3b504b5535347292c17ddfd72c6043aa50a3c7d6504f7fbb766d8"), looks := false }, kinds := [], alts := [], laidByText := true, laidKinds := [.data, .pinned], laidTests := true, laidLooks := .later }
def FnAutoBentUptoCardSaid : Prop := Claim7.holds Tryd.pinned (.plain (OpenSpec.upto fnAutoBentSpec)) fnAutoBentUptoCard
end Rows
end Go.Proofs.YtkhhclpkljikkaaDoor
