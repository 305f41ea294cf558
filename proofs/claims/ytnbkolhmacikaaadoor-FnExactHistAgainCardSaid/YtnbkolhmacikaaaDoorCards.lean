/-
  DERIVED. GIVEN WITH THE SEED: THE CARDS: each row of YtnbkolhmacikaaaDoorRows.lean that lists a variable, with what it lists TIED to the program's text (the seventh form; the later family's looks); each row that meets fmt, with fmt's text TOLD by the authors' own Lean function (tested against real Go, not proved from fmt's source: count such statements apart). THE CARD IS WHAT COUNTS. Prove the row's statement (the work); the ties are given (YtnbkolhmacikaaaDoorTie.lean); close each card by the builder's one call (the guide's Derived/Test/ToyasCard.lean, 'card_holds'). Laid BY PROGRAM, IN A SANDBOX (cutbox-door.mjs). By AI agents, Wed Nov 11 2026. No macro, syntax, notation, axiom, sorry.
-/
import Derived.Test.YtnbkolhmacikaaaDoorRows
import GoSem.ClaimSeven
namespace Go.Proofs.YtnbkolhmacikaaaDoor
namespace Rows

/-- THE TIED CARD OF 'laws.FnExactHistNew'. -/
def fnExactHistNewCard : Claim7 := { stood := { row := fnExactHistNewRow, standIns := [], harness := (true, "da7123c453ae6667bd097d3cbf10c9e4bdca81469485e9f0508428e5c1230f37"), looks := false }, kinds := [], alts := [], laidByText := true, laidKinds := [.data, .pinned], laidTests := true, laidLooks := .later }
def FnExactHistNewCardSaid : Prop := Claim7.holds Tryd.pinned (.plain (OpenSpec.ofChange fnExactHistNewSpec)) fnExactHistNewCard

/-- THE TIED CARD OF 'laws.FnExactHistOk'. -/
def fnExactHistOkCard : Claim7 := { stood := { row := fnExactHistOkRow, standIns := [], harness := (true, "da7123c453ae6667bd097d3cbf10c9e4bdca81469485e9f0508428e5c1230f37"), looks := false }, kinds := [], alts := [], laidByText := true, laidKinds := [.data, .pinned], laidTests := true, laidLooks := .later }
def FnExactHistOkCardSaid : Prop := Claim7.holds Tryd.pinned (.plain (OpenSpec.ofChange fnExactHistOkSpec)) fnExactHistOkCard

/-- THE TIED CARD OF 'laws.FnExactHistFirst'. -/
def fnExactHistFirstCard : Claim7 := { stood := { row := fnExactHistFirstRow, standIns := [], harness := (true, "da7123c453ae6667bd097d3cbf10c9e4bdca81469485e9f0508428e5c1230f37"), looks := false }, kinds := [], alts := [], laidByText := true, laidKinds := [.data, .pinned], laidTests := true, laidLooks := .later }
def FnExactHistFirstCardSaid : Prop := Claim7.holds Tryd.pinned (.plain (OpenSpec.ofChange fnExactHistFirstSpec)) fnExactHistFirstCard

/-- THE TIED CARD OF 'laws.FnExactHistLast'. -/
def fnExactHistLastCard : Claim7 := { stood := { row := fnExactHistLastRow, standIns := [], harness := (true, "da7123c453ae6667bd097d3cbf10c9e4bdca81469485e9f0508428e5c1230f37"), looks := false }, kinds := [], alts := [], laidByText := true, laidKinds := [.data, .pinned], laidTests := true, laidLooks := .later }
def FnExactHistLastCardSaid : Prop := Claim7.holds Tryd.pinned (.plain (OpenSpec.ofChange fnExactHistLastSpec)) fnExactHistLastCard

/-- THE TIED CARD OF 'laws.FnHistNew'. -/
def fnHistNewCard : Claim7 := { stood := { row := fnHistNewRow, standIns := [], harness := (true, "da7123c453ae6667bd097d3cbf10c9e4bdca81469485e9f0508428e5c1230f37"), looks := false }, kinds := [], alts := [], laidByText := true, laidKinds := [.data, .pinned], laidTests := true, laidLooks := .later }
def FnHistNewCardSaid : Prop := Claim7.holds Tryd.pinned (.plain (OpenSpec.ofChange fnHistNewSpec)) fnHistNewCard

/-- THE TIED CARD OF 'laws.FnExactHistDo'. -/
def fnExactHistDoCard : Claim7 := { stood := { row := fnExactHistDoRow, standIns := [], harness := (true, "da7123c453ae6667bd097d3cbf10c9e4bdca81469485e9f0508428e5c1230f37"), looks := false }, kinds := [], alts := [], laidByText := true, laidKinds := [.data, .pinned], laidTests := true, laidLooks := .later }
def FnExactHistDoCardSaid : Prop := Claim7.holds Tryd.pinned (.plain (OpenSpec.ofChange fnExactHistDoSpec)) fnExactHistDoCard

/-- THE TIED CARD OF 'laws.FnHistOk'. -/
def fnHistOkCard : Claim7 := { stood := { row := fnHistOkRow, standIns := [], harness := (true, "da7123c453ae6667bd097d3cbf10c9e4bdca81469485e9f0508428e5c1230f37"), looks := false }, kinds := [], alts := [], laidByText := true, laidKinds := [.data, .pinned], laidTests := true, laidLooks := .later }
def FnHistOkCardSaid : Prop := Claim7.holds Tryd.pinned (.plain (OpenSpec.ofChange fnHistOkSpec)) fnHistOkCard

/-- THE TIED CARD OF 'laws.FnHistCut'. -/
def fnHistCutCard : Claim7 := { stood := { row := fnHistCutRow, standIns := [], harness := (true, "da7123c453ae6667bd097d3cbf10c9e4bdca81469485e9f0508428e5c1230f37"), looks := false }, kinds := [], alts := [], laidByText := true, laidKinds := [.data, .pinned], laidTests := true, laidLooks := .later }
def FnHistCutCardSaid : Prop := Claim7.holds Tryd.pinned (.plain (OpenSpec.ofChange fnHistCutSpec)) fnHistCutCard

/-- THE TIED CARD OF 'laws.FnHistTwo'. -/
def fnHistTwoCard : Claim7 := { stood := { row := fnHistTwoRow, standIns := [], harness := (true, "da7123c453ae6667bd097d3cbf10c9e4bdca81469485e9f0508428e5c1230f37"), looks := false }, kinds := [], alts := [], laidByText := true, laidKinds := [.data, .pinned], laidTests := true, laidLooks := .later }
def FnHistTwoCardSaid : Prop := Claim7.holds Tryd.pinned (.plain (OpenSpec.ofChange fnHistTwoSpec)) fnHistTwoCard

/-- THE TIED CARD OF 'laws.FnExactHistBack'. -/
def fnExactHistBackCard : Claim7 := { stood := { row := fnExactHistBackRow, standIns := [], harness := (true, "da7123c453ae6667bd097d3cbf10c9e4bdca81469485e9f0508428e5c1230f37"), looks := false }, kinds := [], alts := [], laidByText := true, laidKinds := [.data, .pinned], laidTests := true, laidLooks := .later }
def FnExactHistBackCardSaid : Prop := Claim7.holds Tryd.pinned (.plain (OpenSpec.ofChange fnExactHistBackSpec)) fnExactHistBackCard

/-- THE TIED CARD OF 'laws.FnHistAll'. -/
def fnHistAllCard : Claim7 := { stood := { row := fnHistAllRow, standIns := [], harness := (true, "da7123c453ae6667bd097d3cbf10c9e4bdca81469485e9f0508428e5c1230f37"), looks := false }, kinds := [], alts := [], laidByText := true, laidKinds := [.data, .pinned], laidTests := true, laidLooks := .later }
def FnHistAllCardSaid : Prop := Claim7.holds Tryd.pinned (.plain (OpenSpec.ofChange fnHistAllSpec)) fnHistAllCard

/-- THE TIED CARD OF 'laws.FnHistBack'. -/
def fnHistBackCard : Claim7 := { stood := { row := fnHistBackRow, standIns := [], harness := (true, "da7123c453ae6667bd097d3cbf10c9e4bdca81469485e9f0508428e5c1230f37"), looks := false }, kinds := [], alts := [], laidByText := true, laidKinds := [.data, .pinned], laidTests := true, laidLooks := .later }
def FnHistBackCardSaid : Prop := Claim7.holds Tryd.pinned (.plain (OpenSpec.ofChange fnHistBackSpec)) fnHistBackCard

/-- THE TIED CARD OF 'laws.FnHistFirst'. -/
def fnHistFirstCard : Claim7 := { stood := { row := fnHistFirstRow, standIns := [], harness := (true, "da7123c453ae6667bd097d3cbf10c9e4bdca81469485e9f0508428e5c1230f37"), looks := false }, kinds := [], alts := [], laidByText := true, laidKinds := [.data, .pinned], laidTests := true, laidLooks := .later }
def FnHistFirstCardSaid : Prop := Claim7.holds Tryd.pinned (.plain (OpenSpec.ofChange fnHistFirstSpec)) fnHistFirstCard

/-- THE TIED CARD OF 'laws.FnExactHistAgain'. -/
def fnExactHistAgainCard : Claim7 := { stood := { row := fnExactHistAgainRow, standIns := [], harness := (true, "da7123c453ae6667bd097d3cbf10c9e4bdca81469485e9f0508428e5c1230f37"), looks := false }, kinds := [], alts := [], laidByText := true, laidKinds := [.data, .pinned], laidTests := true, laidLooks := .later }
def FnExactHistAgainCardSaid : Prop := Claim7.holds Tryd.pinned (.plain (OpenSpec.ofChange fnExactHistAgainSpec)) fnExactHistAgainCard

/-- THE TIED CARD OF 'laws.FnHistBent'. -/
def fnHistBentCard : Claim7 := { stood := { row := fnHistBentRow, standIns := [], harness := (true, "da7123c453ae6667bd097d3cbf10c9e4bdca81469485e9f0508428e5c1230f37"), looks := false }, kinds := [], alts := [], laidByText := true, laidKinds := [.data, .pinned], laidTests := true, laidLooks := .later }
def FnHistBentCardSaid : Prop := Claim7.holds Tryd.pinned (.plain (OpenSpec.ofChange fnHistBentSpec)) fnHistBentCard

/-- THE SECOND FORM's CARD OF 'laws.FnExactHistNew'. -/
def fnExactHistNewUptoCard : Claim7 := { stood := { row := fnExactHistNewUptoRow, standIns := [], harness := (true, "da7123c453ae6667bd097d3cbf10c9e4bdca81469485e9f0508428e5c1230f37"), looks := false }, kinds := [], alts := [], laidByText := true, laidKinds := [.data, .pinned], laidTests := true, laidLooks := .later }
def FnExactHistNewUptoCardSaid : Prop := Claim7.holds Tryd.pinned (.plain (OpenSpec.upto fnExactHistNewSpec)) fnExactHistNewUptoCard

/-- THE SECOND FORM's CARD OF 'laws.FnExactHistOk'. -/
def fnExactHistOkUptoCard : Claim7 := { stood := { row := fnExactHistOkUptoRow, standIns := [], harness := (true, "da7123c453ae6667bd097d3cbf10c9e4bdca81469485e9f0508428e5c1230f37"), looks := false }, kinds := [], alts := [], laidByText := true, laidKinds := [.data, .pinned], laidTests := true, laidLooks := .later }
def FnExactHistOkUptoCardSaid : Prop := Claim7.holds Tryd.pinned (.plain (OpenSpec.upto fnExactHistOkSpec)) fnExactHistOkUptoCard

/-- THE SECOND FORM's CARD OF 'laws.FnExactHistFirst'. -/
def fnExactHistFirstUptoCard : Claim7 := { stood := { row := fnExactHistFirstUptoRow, standIns := [], harness := (true, "da7123c453ae6667bd097d3cbf10c9e4bdca81469485e9f0508428e5c1230f37"), looks := false }, kinds := [], alts := [], laidByText := true, laidKinds := [.data, .pinned], laidTests := true, laidLooks := .later }
def FnExactHistFirstUptoCardSaid : Prop := Claim7.holds Tryd.pinned (.plain (OpenSpec.upto fnExactHistFirstSpec)) fnExactHistFirstUptoCard

/-- THE SECOND FORM's CARD OF 'laws.FnExactHistLast'. -/
def fnExactHistLastUptoCard : Claim7 := { stood := { row := fnExactHistLastUptoRow, standIns := [], harness := (true, "da7123c453ae6667bd097d3cbf10c9e4bdca81469485e9f0508428e5c1230f37"), looks := false }, kinds := [], alts := [], laidByText := true, laidKinds := [.data, .pinned], laidTests := true, laidLooks := .later }
def FnExactHistLastUptoCardSaid : Prop := Claim7.holds Tryd.pinned (.plain (OpenSpec.upto fnExactHistLastSpec)) fnExactHistLastUptoCard

/-- THE SECOND FORM's CARD OF 'laws.FnHistNew'. -/
def fnHistNewUptoCard : Claim7 := { stood := { row := fnHistNewUptoRow, standIns := [], harness := (true, "da7123c453ae6667bd097d3cbf10c9e4bdca81469485e9f0508428e5c1230f37"), looks := false }, kinds := [], alts := [], laidByText := true, laidKinds := [.data, .pinned], laidTests := true, laidLooks := .later }
def FnHistNewUptoCardSaid : Prop := Claim7.holds Tryd.pinned (.plain (OpenSpec.upto fnHistNewSpec)) fnHistNewUptoCard

/-- THE SECOND FORM's CARD OF 'laws.FnExactHistDo'. -/
def fnExactHistDoUptoCard : Claim7 := { stood := { row := fnExactHistDoUptoRow, standIns := [], harness := (true, "da7123c453ae6667bd097d3cbf10c9e4bdca81469485e9f0508428e5c1230f37"), looks := false }, kinds := [], alts := [], laidByText := true, laidKinds := [.data, .pinned], laidTests := true, laidLooks := .later }
def FnExactHistDoUptoCardSaid : Prop := Claim7.holds Tryd.pinned (.plain (OpenSpec.upto fnExactHistDoSpec)) fnExactHistDoUptoCard

/-- THE SECOND FORM's CARD OF 'laws.FnHistOk'. -/
def fnHistOkUptoCard : Claim7 := { stood := { row := fnHistOkUptoRow, standIns := [], harness := (true, "da7123c453ae6667bd097d3cbf10c9e4bdca81469485e9f0508428e5c1230f37"), looks := false }, kinds := [], alts := [], laidByText := true, laidKinds := [.data, .pinned], laidTests := true, laidLooks := .later }
def FnHistOkUptoCardSaid : Prop := Claim7.holds Tryd.pinned (.plain (OpenSpec.upto fnHistOkSpec)) fnHistOkUptoCard

/-- THE SECOND FORM's CARD OF 'laws.FnHistCut'. -/
def fnHistCutUptoCard : Claim7 := { stood := { row := fnHistCutUptoRow, standIns := [], harness := (true, "da7123c453ae6667bd097d3cbf10c9e4bdca81469485e9f0508428e5c1230f37"), looks := false }, kinds := [], alts := [], laidByText := true, laidKinds := [.data, .pinned], laidTests := true, laidLooks := .later }
def FnHistCutUptoCardSaid : Prop := Claim7.holds Tryd.pinned (.plain (OpenSpec.upto fnHistCutSpec)) fnHistCutUptoCard

/-- THE SECOND FORM's CARD OF 'laws.FnHistTwo'. -/
def fnHistTwoUptoCard : Claim7 := { stood := { row := fnHistTwoUptoRow, standIns := [], harness := (true, "da7123c453ae6667bd097d3cbf10c9e4bdca81469485e9f0508428e5c1230f37"), looks := false }, kinds := [], alts := [], laidByText := true, laidKinds := [.data, .pinned], laidTests := true, laidLooks := .later }
def FnHistTwoUptoCardSaid : Prop := Claim7.holds Tryd.pinned (.plain (OpenSpec.upto fnHistTwoSpec)) fnHistTwoUptoCard

/-- THE SECOND FORM's CARD OF 'laws.FnExactHistBack'. -/
def fnExactHistBackUptoCard : Claim7 := { stood := { row := fnExactHistBackUptoRow, standIns := [], harness := (true, "da7123c453ae6667bd097d3cbf10c9e4bdca81469485e9f0508428e5c1230f37"), looks := false }, kinds := [], alts := [], laidByText := true, laidKinds := [.data, .pinned], laidTests := true, laidLooks := .later }
def FnExactHistBackUptoCardSaid : Prop := Claim7.holds Tryd.pinned (.plain (OpenSpec.upto fnExactHistBackSpec)) fnExactHistBackUptoCard

/-- THE SECOND FORM's CARD OF 'laws.FnHistAll'. -/
def fnHistAllUptoCard : Claim7 := { stood := { row := fnHistAllUptoRow, standIns := [], harness := (true, "da7123c453ae6667bd097d3cbf10c9e4bdca81469485e9f0508428e5c1230f37"), looks := false }, kinds := [], alts := [], laidByText := true, laidKinds := [.data, .pinned], laidTests := true, laidLooks := .later }
def FnHistAllUptoCardSaid : Prop := Claim7.holds Tryd.pinned (.plain (OpenSpec.upto fnHistAllSpec)) fnHistAllUptoCard

/-- THE SECOND FORM's CARD OF 'laws.FnHistBack'. -/
def fnHistBackUptoCard : Claim7 := { stood := { row := fnHistBackUptoRow, standIns := [], harness := (true, "da7123c453ae6667bd097d3cbf10c9e4bdca81469485e9f0508428e5c1230f37"), looks := false }, kinds := [], alts := [], laidByText := true, laidKinds := [.data, .pinned], laidTests := true, laidLooks := .later }
def FnHistBackUptoCardSaid : Prop := Claim7.holds Tryd.pinned (.plain (OpenSpec.upto fnHistBackSpec)) fnHistBackUptoCard

/-- THE SECOND FORM's CARD OF 'laws.FnHistFirst'. -/
def fnHistFirstUptoCard : Claim7 := { stood := { row := fnHistFirstUptoRow, standIns := [], harness := (true, "da7123c453ae6667bd097d3cbf10c9e4bdca81469485e9f0508428e5c1230f37"), looks := false }, kinds := [], alts := [], laidByText := true, laidKinds := [.data, .pinned], laidTests := true, laidLooks := .later }
def FnHistFirstUptoCardSaid : Prop := Claim7.holds Tryd.pinned (.plain (OpenSpec.upto fnHistFirstSpec)) fnHistFirstUptoCard

/-- THE SECOND FORM's CARD OF 'laws.FnExactHistAgain'. -/
def fnExactHistAgainUptoCard : Claim7 := { stood := { row := fnExactHistAgainUptoRow, standIns := [], harness := (true, "da7123c453ae6667bd097d3cbf10c9e4bdca81469485e9f0508428e5c1230f37"), looks := false }, kinds := [], alts := [], laidByText := true, laidKinds := [.data, .pinned], laidTests := true, laidLooks := .later }
def FnExactHistAgainUptoCardSaid : Prop := Claim7.holds Tryd.pinned (.plain (OpenSpec.upto fnExactHistAgainSpec)) fnExactHistAgainUptoCard

/-- THE SECOND FORM's CARD OF 'laws.FnHistBent'. -/
def fnHistBentUptoCard : Claim7 := { stood := { row := fnHistBentUptoRow, standIns := [], harness := (true, "da7123c453ae6667bd097d3cbf10c9e4bdca81469485e9f0508428e5c1230f37"), looks := false }, kinds := [], alts := [], laidByText := true, laidKinds := [.data, .pinned], laidTests := true, laidLooks := .later }
def FnHistBentUptoCardSaid : Prop := Claim7.holds Tryd.pinned (.plain (OpenSpec.upto fnHistBentSpec)) fnHistBentUptoCard
end Rows
end Go.Proofs.YtnbkolhmacikaaaDoor
