/-
  DERIVED. GIVEN WITH THE SEED: THE CARDS: each row of YtmeiebnfmhddnaaGreatDoorRows.lean that lists a variable, with what it lists TIED to the program's text (the seventh form; the later family's looks); each row that meets fmt, with fmt's text TOLD by the authors' own Lean function (tested against real Go, not proved from fmt's source: count such statements apart). THE CARD IS WHAT COUNTS. Prove the row's statement (the work); the ties are given (YtmeiebnfmhddnaaGreatDoorTie.lean); close each card by the builder's one call (the guide's Derived/Test/ToyasCard.lean, 'card_holds'). Laid BY PROGRAM, IN A SANDBOX (cutbox-door.mjs). By AI agents, Wed Nov 11 2026. No macro, syntax, notation, axiom, sorry.
-/
import Derived.Test.YtmeiebnfmhddnaaGreatDoorRows
import GoSem.ClaimSeven
namespace Go.Proofs.YtmeiebnfmhddnaaGreatDoor
namespace Rows

/-- THE TIED CARD OF 'laws.FnMendFar'. -/
def fnMendFarCard : Claim7 := { stood := { row := fnMendFarRow, standIns := [], harness := (true, "bef5045932b83f32403de518cfb1b0f987a8043e7b16326b13fde38a533381bc"), looks := false }, kinds := [], alts := [], laidByText := true, laidKinds := [.data, .pinned], laidTests := true, laidLooks := .later }
def FnMendFarCardSaid : Prop := Claim7.holds Tryz.pinned (.plain (OpenSpec.ofChange fnMendFarSpec)) fnMendFarCard

/-- THE TIED CARD OF 'laws.FnMendNext'. -/
def fnMendNextCard : Claim7 := { stood := { row := fnMendNextRow, standIns := [], harness := (true, "bef5045932b83f32403de518cfb1b0f987a8043e7b16326b13fde38a533381bc"), looks := false }, kinds := [], alts := [], laidByText := true, laidKinds := [.data, .pinned], laidTests := true, laidLooks := .later }
def FnMendNextCardSaid : Prop := Claim7.holds Tryz.pinned (.plain (OpenSpec.ofChange fnMendNextSpec)) fnMendNextCard

/-- THE TIED CARD OF 'laws.FnMendTwice'. -/
def fnMendTwiceCard : Claim7 := { stood := { row := fnMendTwiceRow, standIns := [], harness := (true, "bef5045932b83f32403de518cfb1b0f987a8043e7b16326b13fde38a533381bc"), looks := false }, kinds := [], alts := [], laidByText := true, laidKinds := [.data, .pinned], laidTests := true, laidLooks := .later }
def FnMendTwiceCardSaid : Prop := Claim7.holds Tryz.pinned (.plain (OpenSpec.ofChange fnMendTwiceSpec)) fnMendTwiceCard

/-- THE TIED CARD OF 'laws.FnMendOwn'. -/
def fnMendOwnCard : Claim7 := { stood := { row := fnMendOwnRow, standIns := [], harness := (true, "bef5045932b83f32403de518cfb1b0f987a8043e7b16326b13fde38a533381bc"), looks := false }, kinds := [], alts := [], laidByText := true, laidKinds := [.data, .pinned], laidTests := true, laidLooks := .later }
def FnMendOwnCardSaid : Prop := Claim7.holds Tryz.pinned (.plain (OpenSpec.ofChange fnMendOwnSpec)) fnMendOwnCard

/-- THE TIED CARD OF 'laws.FnMendRun'. -/
def fnMendRunCard : Claim7 := { stood := { row := fnMendRunRow, standIns := [], harness := (true, "bef5045932b83f32403de518cfb1b0f987a8043e7b16326b13fde38a533381bc"), looks := false }, kinds := [], alts := [], laidByText := true, laidKinds := [.data, .pinned], laidTests := true, laidLooks := .later }
def FnMendRunCardSaid : Prop := Claim7.holds Tryz.pinned (.plain (OpenSpec.ofChange fnMendRunSpec)) fnMendRunCard

/-- THE TIED CARD OF 'laws.FnExactMendNext'. -/
def fnExactMendNextCard : Claim7 := { stood := { row := fnExactMendNextRow, standIns := [], harness := (true, "bef5045932b83f32403de518cfb1b0f987a8043e7b16326b13fde38a533381bc"), looks := false }, kinds := [], alts := [], laidByText := true, laidKinds := [.data, .pinned], laidTests := true, laidLooks := .later }
def FnExactMendNextCardSaid : Prop := Claim7.holds Tryz.pinned (.plain (OpenSpec.ofChange fnExactMendNextSpec)) fnExactMendNextCard

/-- THE TIED CARD OF 'laws.FnExactMendRun'. -/
def fnExactMendRunCard : Claim7 := { stood := { row := fnExactMendRunRow, standIns := [], harness := (true, "bef5045932b83f32403de518cfb1b0f987a8043e7b16326b13fde38a533381bc"), looks := false }, kinds := [], alts := [], laidByText := true, laidKinds := [.data, .pinned], laidTests := true, laidLooks := .later }
def FnExactMendRunCardSaid : Prop := Claim7.holds Tryz.pinned (.plain (OpenSpec.ofChange fnExactMendRunSpec)) fnExactMendRunCard

/-- THE TIED CARD OF 'laws.FnAllSame'. -/
def fnAllSameCard : Claim7 := { stood := { row := fnAllSameRow, standIns := [], harness := (true, "bef5045932b83f32403de518cfb1b0f987a8043e7b16326b13fde38a533381bc"), looks := false }, kinds := [], alts := [], laidByText := true, laidKinds := [.data, .pinned], laidTests := true, laidLooks := .later }
def FnAllSameCardSaid : Prop := Claim7.holds Tryz.pinned (.plain (OpenSpec.ofChange fnAllSameSpec)) fnAllSameCard

/-- THE TIED CARD OF 'laws.FnGramPlain'. -/
def fnGramPlainCard : Claim7 := { stood := { row := fnGramPlainRow, standIns := [], harness := (true, "bef5045932b83f32403de518cfb1b0f987a8043e7b16326b13fde38a533381bc"), looks := false }, kinds := [], alts := [], laidByText := true, laidKinds := [.data, .pinned], laidTests := true, laidLooks := .later }
def FnGramPlainCardSaid : Prop := Claim7.holds Tryz.pinned (.plain (OpenSpec.ofChange fnGramPlainSpec)) fnGramPlainCard

/-- THE SECOND FORM's CARD OF 'laws.FnMendFar'. -/
def fnMendFarUptoCard : Claim7 := { stood := { row := fnMendFarUptoRow, standIns := [], harness := (true, "bef5045932b83f32403de518cfb1b0f987a8043e7b16326b13fde38a533381bc"), looks := false }, kinds := [], alts := [], laidByText := true, laidKinds := [.data, .pinned], laidTests := true, laidLooks := .later }
def FnMendFarUptoCardSaid : Prop := Claim7.holds Tryz.pinned (.plain (OpenSpec.upto fnMendFarSpec)) fnMendFarUptoCard

/-- THE SECOND FORM's CARD OF 'laws.FnMendNext'. -/
def fnMendNextUptoCard : Claim7 := { stood := { row := fnMendNextUptoRow, standIns := [], harness := (true, "bef5045932b83f32403de518cfb1b0f987a8043e7b16326b13fde38a533381bc"), looks := false }, kinds := [], alts := [], laidByText := true, laidKinds := [.data, .pinned], laidTests := true, laidLooks := .later }
def FnMendNextUptoCardSaid : Prop := Claim7.holds Tryz.pinned (.plain (OpenSpec.upto fnMendNextSpec)) fnMendNextUptoCard

/-- THE SECOND FORM's CARD OF 'laws.FnMendTwice'. -/
def fnMendTwiceUptoCard : Claim7 := { stood := { row := fnMendTwiceUptoRow, standIns := [], harness := (true, "bef5045932b83f32403de518cfb1b0f987a8043e7b16326b13fde38a533381bc"), looks := false }, kinds := [], alts := [], laidByText := true, laidKinds := [.data, .pinned], laidTests := true, laidLooks := .later }
def FnMendTwiceUptoCardSaid : Prop := Claim7.holds Tryz.pinned (.plain (OpenSpec.upto fnMendTwiceSpec)) fnMendTwiceUptoCard

/-- THE SECOND FORM's CARD OF 'laws.FnMendOwn'. -/
def fnMendOwnUptoCard : Claim7 := { stood := { row := fnMendOwnUptoRow, standIns := [], harness := (true, "bef5045932b83f32403de518cfb1b0f987a8043e7b16326b13fde38a533381bc"), looks := false }, kinds := [], alts := [], laidByText := true, laidKinds := [.data, .pinned], laidTests := true, laidLooks := .later }
def FnMendOwnUptoCardSaid : Prop := Claim7.holds Tryz.pinned (.plain (OpenSpec.upto fnMendOwnSpec)) fnMendOwnUptoCard

/-- THE SECOND FORM's CARD OF 'laws.FnMendRun'. -/
def fnMendRunUptoCard : Claim7 := { stood := { row := fnMendRunUptoRow, standIns := [], harness := (true, "bef5045932b83f32403de518cfb1b0f987a8043e7b16326b13fde38a533381bc"), looks := false }, kinds := [], alts := [], laidByText := true, laidKinds := [.data, .pinned], laidTests := true, laidLooks := .later }
def FnMendRunUptoCardSaid : Prop := Claim7.holds Tryz.pinned (.plain (OpenSpec.upto fnMendRunSpec)) fnMendRunUptoCard

/-- THE SECOND FORM's CARD OF 'laws.FnExactMendNext'. -/
def fnExactMendNextUptoCard : Claim7 := { stood := { row := fnExactMendNextUptoRow, standIns := [], harness := (true, "bef5045932b83f32403de518cfb1b0f987a8043e7b16326b13fde38a533381bc"), looks := false }, kinds := [], alts := [], laidByText := true, laidKinds := [.data, .pinned], laidTests := true, laidLooks := .later }
def FnExactMendNextUptoCardSaid : Prop := Claim7.holds Tryz.pinned (.plain (OpenSpec.upto fnExactMendNextSpec)) fnExactMendNextUptoCard

/-- THE SECOND FORM's CARD OF 'laws.FnExactMendRun'. -/
def fnExactMendRunUptoCard : Claim7 := { stood := { row := fnExactMendRunUptoRow, standIns := [], harness := (true, "bef5045932b83f32403de518cfb1b0f987a8043e7b16326b13fde38a533381bc"), looks := false }, kinds := [], alts := [], laidByText := true, laidKinds := [.data, .pinned], laidTests := true, laidLooks := .later }
def FnExactMendRunUptoCardSaid : Prop := Claim7.holds Tryz.pinned (.plain (OpenSpec.upto fnExactMendRunSpec)) fnExactMendRunUptoCard

/-- THE SECOND FORM's CARD OF 'laws.FnAllSame'. -/
def fnAllSameUptoCard : Claim7 := { stood := { row := fnAllSameUptoRow, standIns := [], harness := (true, "bef5045932b83f32403de518cfb1b0f987a8043e7b16326b13fde38a533381bc"), looks := false }, kinds := [], alts := [], laidByText := true, laidKinds := [.data, .pinned], laidTests := true, laidLooks := .later }
def FnAllSameUptoCardSaid : Prop := Claim7.holds Tryz.pinned (.plain (OpenSpec.upto fnAllSameSpec)) fnAllSameUptoCard

/-- THE SECOND FORM's CARD OF 'laws.FnGramPlain'. -/
def fnGramPlainUptoCard : Claim7 := { stood := { row := fnGramPlainUptoRow, standIns := [], harness := (true, "bef5045932b83f32403de518cfb1b0f987a8043e7b16326b13fde38a533381bc"), looks := false }, kinds := [], alts := [], laidByText := true, laidKinds := [.data, .pinned], laidTests := true, laidLooks := .later }
def FnGramPlainUptoCardSaid : Prop := Claim7.holds Tryz.pinned (.plain (OpenSpec.upto fnGramPlainSpec)) fnGramPlainUptoCard
end Rows
end Go.Proofs.YtmeiebnfmhddnaaGreatDoor
