/-
  DERIVED. GIVEN WITH THE SEED: THE CARDS: each row of YtbijdgkkneffgaaGreatDoorRows.lean that lists a variable, with what it lists TIED to the program's text (the seventh form; the later family's looks); each row that meets fmt, with fmt's text TOLD by the authors' own Lean function (tested against real Go, not proved from fmt's source: count such statements apart). THE CARD IS WHAT COUNTS. Prove the row's statement (the work); the ties are given (YtbijdgkkneffgaaGreatDoorTie.lean); close each card by the builder's one call (the guide's Derived/Test/ToyasCard.lean, 'card_holds'). Laid BY PROGRAM, IN A SANDBOX (cutbox-door.mjs). By AI agents, Wed Nov 11 2026. No macro, syntax, notation, axiom, sorry.
-/
import Derived.Test.YtbijdgkkneffgaaGreatDoorRows
import GoSem.ClaimSeven
namespace Go.Proofs.YtbijdgkkneffgaaGreatDoor
namespace Rows

/-- THE TIED CARD OF 'laws.FnGramOnes'. -/
def fnGramOnesCard : Claim7 := { stood := { row := fnGramOnesRow, standIns := [], harness := (true, "4a0e12db03d5093c8067461837c2149b2fb024a3c8b4c94af698a173e2371ca9"), looks := false }, kinds := [], alts := [], laidByText := true, laidKinds := [.data, .pinned], laidTests := true, laidLooks := .later }
def FnGramOnesCardSaid : Prop := Claim7.holds Tryz.pinned (.plain (OpenSpec.ofChange fnGramOnesSpec)) fnGramOnesCard

/-- THE TIED CARD OF 'laws.FnAllSame'. -/
def fnAllSameCard : Claim7 := { stood := { row := fnAllSameRow, standIns := [], harness := (true, "4a0e12db03d5093c8067461837c2149b2fb024a3c8b4c94af698a173e2371ca9"), looks := false }, kinds := [], alts := [], laidByText := true, laidKinds := [.data, .pinned], laidTests := true, laidLooks := .later }
def FnAllSameCardSaid : Prop := Claim7.holds Tryz.pinned (.plain (OpenSpec.ofChange fnAllSameSpec)) fnAllSameCard

/-- THE TIED CARD OF 'laws.FnGramPlain'. -/
def fnGramPlainCard : Claim7 := { stood := { row := fnGramPlainRow, standIns := [], harness := (true, "4a0e12db03d5093c8067461837c2149b2fb024a3c8b4c94af698a173e2371ca9"), looks := false }, kinds := [], alts := [], laidByText := true, laidKinds := [.data, .pinned], laidTests := true, laidLooks := .later }
def FnGramPlainCardSaid : Prop := Claim7.holds Tryz.pinned (.plain (OpenSpec.ofChange fnGramPlainSpec)) fnGramPlainCard

/-- THE SECOND FORM's CARD OF 'laws.FnGramOnes'. -/
def fnGramOnesUptoCard : Claim7 := { stood := { row := fnGramOnesUptoRow, standIns := [], harness := (true, "4a0e12db03d5093c8067461837c2149b2fb024a3c8b4c94af698a173e2371ca9"), looks := false }, kinds := [], alts := [], laidByText := true, laidKinds := [.data, .pinned], laidTests := true, laidLooks := .later }
def FnGramOnesUptoCardSaid : Prop := Claim7.holds Tryz.pinned (.plain (OpenSpec.upto fnGramOnesSpec)) fnGramOnesUptoCard

/-- THE SECOND FORM's CARD OF 'laws.FnAllSame'. -/
def fnAllSameUptoCard : Claim7 := { stood := { row := fnAllSameUptoRow, standIns := [], harness := (true, "4a0e12db03d5093c8067461837c2149b2fb024a3c8b4c94af698a173e2371ca9"), looks := false }, kinds := [], alts := [], laidByText := true, laidKinds := [.data, .pinned], laidTests := true, laidLooks := .later }
def FnAllSameUptoCardSaid : Prop := Claim7.holds Tryz.pinned (.plain (OpenSpec.upto fnAllSameSpec)) fnAllSameUptoCard

/-- THE SECOND FORM's CARD OF 'laws.FnGramPlain'. -/
def fnGramPlainUptoCard : Claim7 := { stood := { row := fnGramPlainUptoRow, standIns := [], harness := (true, "4a0e12db03d5093c8067461837c2149b2fb024a3c8b4c94af698a173e2371ca9"), looks := false }, kinds := [], alts := [], laidByText := true, laidKinds := [.data, .pinned], laidTests := true, laidLooks := .later }
def FnGramPlainUptoCardSaid : Prop := Claim7.holds Tryz.pinned (.plain (OpenSpec.upto fnGramPlainSpec)) fnGramPlainUptoCard
end Rows
end Go.Proofs.YtbijdgkkneffgaaGreatDoor
