/-
  DERIVED. GIVEN WITH THE SEED: THE CARDS: each row of YthbpnbbilaobbaaDoorRows.lean that lists a variable, with what it lists TIED to the program's text (the seventh form; the later family's looks); each row that meets fmt, with fmt's text TOLD by the authors' own Lean function (tested against real Go, not proved from fmt's source: count such statements apart). THE CARD IS WHAT COUNTS. Prove the row's statement (the work); the ties are given (YthbpnbbilaobbaaDoorTie.lean); close each card by the builder's one call (the guide's Derived/Test/ToyasCard.lean, 'card_holds'). Laid BY PROGRAM, IN A SANDBOX (cutbox-door.mjs). By AI agents, Wed Nov 11 2026. No macro, syntax, notation, axiom, sorry.
-/
import Derived.Test.YthbpnbbilaobbaaDoorRows
import GoSem.ClaimSeven
namespace Go.Proofs.YthbpnbbilaobbaaDoor
namespace Rows

/-- THE TIED CARD OF 'laws.FnAllParts'. -/
def fnAllPartsCard : Claim7 := { stood := { row := fnAllPartsRow, standIns := [], harness := (true, "416b4cfd34d48820597dcfb3795d0a5d401292a1235608777b892c9b2d715fdf"), looks := false }, kinds := [], alts := [], laidByText := true, laidKinds := [.data, .pinned], laidTests := true, laidLooks := .later }
def FnAllPartsCardSaid : Prop := Claim7.holds Tryd.pinned (.plain (OpenSpec.ofChange fnAllPartsSpec)) fnAllPartsCard

/-- THE TIED CARD OF 'laws.FnAutoBent'. -/
def fnAutoBentCard : Claim7 := { stood := { row := fnAutoBentRow, standIns := [], harness := (true, "416b4cfd34d48820597dcfb3795d0a5d401292a1235608777b892c9b2d715fdf"), looks := false }, kinds := [], alts := [], laidByText := true, laidKinds := [.data, .pinned], laidTests := true, laidLooks := .later }
def FnAutoBentCardSaid : Prop := Claim7.holds Tryd.pinned (.plain (OpenSpec.ofChange fnAutoBentSpec)) fnAutoBentCard

/-- THE TIED CARD OF 'laws.FnGramStart'. -/
def fnGramStartCard : Claim7 := { stood := { row := fnGramStartRow, standIns := [], harness := (true, "416b4cfd34d48820597dcfb3795d0a5d401292a1235608777b892c9b2d715fdf"), looks := false }, kinds := [], alts := [], laidByText := true, laidKinds := [.data, .pinned], laidTests := true, laidLooks := .later }
def FnGramStartCardSaid : Prop := Claim7.holds Tryd.pinned (.plain (OpenSpec.ofChange fnGramStartSpec)) fnGramStartCard

/-- THE TIED CARD OF 'laws.FnGramSigns'. -/
def fnGramSignsCard : Claim7 := { stood := { row := fnGramSignsRow, standIns := [], harness := (true, "416b4cfd34d48820597dcfb3795d0a5d401292a1235608777b892c9b2d715fdf"), looks := false }, kinds := [], alts := [], laidByText := true, laidKinds := [.data, .pinned], laidTests := true, laidLooks := .later }
def FnGramSignsCardSaid : Prop := Claim7.holds Tryd.pinned (.plain (OpenSpec.ofChange fnGramSignsSpec)) fnGramSignsCard

/-- THE TIED CARD OF 'laws.FnTreeText'. -/
def fnTreeTextCard : Claim7 := { stood := { row := fnTreeTextRow, standIns := [], harness := (true, "416b4cfd34d48820597dcfb3795d0a5d401292a1235608777b892c9b2d715fdf"), looks := false }, kinds := [], alts := [], laidByText := true, laidKinds := [.data, .data, .data, .data, .pinned], laidTests := true, laidLooks := .later }
def FnTreeTextCardSaid : Prop := Claim7.holds Tryd.pinned (.plain (OpenSpec.ofChange fnTreeTextSpec)) fnTreeTextCard

/-- THE TIED CARD OF 'laws.FnGramBent'. -/
def fnGramBentCard : Claim7 := { stood := { row := fnGramBentRow, standIns := [], harness := (true, "416b4cfd34d48820597dcfb3795d0a5d401292a1235608777b892c9b2d715fdf"), looks := false }, kinds := [], alts := [], laidByText := true, laidKinds := [.data, .pinned], laidTests := true, laidLooks := .later }
def FnGramBentCardSaid : Prop := Claim7.holds Tryd.pinned (.plain (OpenSpec.ofChange fnGramBentSpec)) fnGramBentCard

/-- THE TIED CARD OF 'laws.FnGramMet'. -/
def fnGramMetCard : Claim7 := { stood := { row := fnGramMetRow, standIns := [], harness := (true, "416b4cfd34d48820597dcfb3795d0a5d401292a1235608777b892c9b2d715fdf"), looks := false }, kinds := [], alts := [], laidByText := true, laidKinds := [.data, .pinned], laidTests := true, laidLooks := .later }
def FnGramMetCardSaid : Prop := Claim7.holds Tryd.pinned (.plain (OpenSpec.ofChange fnGramMetSpec)) fnGramMetCard

/-- THE TIED CARD OF 'laws.FnExactCountWords'. -/
def fnExactCountWordsCard : Claim7 := { stood := { row := fnExactCountWordsRow, standIns := [], harness := (true, "416b4cfd34d48820597dcfb3795d0a5d401292a1235608777b892c9b2d715fdf"), looks := false }, kinds := [], alts := [], laidByText := true, laidKinds := [.data, .pinned], laidTests := true, laidLooks := .later }
def FnExactCountWordsCardSaid : Prop := Claim7.holds Tryd.pinned (.plain (OpenSpec.ofChange fnExactCountWordsSpec)) fnExactCountWordsCard

/-- THE TIED CARD OF 'laws.FnAllLonger'. -/
def fnAllLongerCard : Claim7 := { stood := { row := fnAllLongerRow, standIns := [], harness := (true, "416b4cfd34d48820597dcfb3795d0a5d401292a1235608777b892c9b2d715fdf"), looks := false }, kinds := [], alts := [], laidByText := true, laidKinds := [.data, .pinned], laidTests := true, laidLooks := .later }
def FnAllLongerCardSaid : Prop := Claim7.holds Tryd.pinned (.plain (OpenSpec.ofChange fnAllLongerSpec)) fnAllLongerCard

/-- THE TIED CARD OF 'laws.FnAllWords'. -/
def fnAllWordsCard : Claim7 := { stood := { row := fnAllWordsRow, standIns := [], harness := (true, "416b4cfd34d48820597dcfb3795d0a5d401292a1235608777b892c9b2d715fdf"), looks := false }, kinds := [], alts := [], laidByText := true, laidKinds := [.data, .pinned], laidTests := true, laidLooks := .later }
def FnAllWordsCardSaid : Prop := Claim7.holds Tryd.pinned (.plain (OpenSpec.ofChange fnAllWordsSpec)) fnAllWordsCard

/-- THE TIED CARD OF 'laws.FnCountSum'. -/
def fnCountSumCard : Claim7 := { stood := { row := fnCountSumRow, standIns := [], harness := (true, "416b4cfd34d48820597dcfb3795d0a5d401292a1235608777b892c9b2d715fdf"), looks := false }, kinds := [], alts := [], laidByText := true, laidKinds := [.data, .pinned], laidTests := true, laidLooks := .later }
def FnCountSumCardSaid : Prop := Claim7.holds Tryd.pinned (.plain (OpenSpec.ofChange fnCountSumSpec)) fnCountSumCard

/-- THE TIED CARD OF 'laws.FnCountWords'. -/
def fnCountWordsCard : Claim7 := { stood := { row := fnCountWordsRow, standIns := [], harness := (true, "416b4cfd34d48820597dcfb3795d0a5d401292a1235608777b892c9b2d715fdf"), looks := false }, kinds := [], alts := [], laidByText := true, laidKinds := [.data, .pinned], laidTests := true, laidLooks := .later }
def FnCountWordsCardSaid : Prop := Claim7.holds Tryd.pinned (.plain (OpenSpec.ofChange fnCountWordsSpec)) fnCountWordsCard

/-- THE TIED CARD OF 'laws.FnMendBent'. -/
def fnMendBentCard : Claim7 := { stood := { row := fnMendBentRow, standIns := [], harness := (true, "416b4cfd34d48820597dcfb3795d0a5d401292a1235608777b892c9b2d715fdf"), looks := false }, kinds := [], alts := [], laidByText := true, laidKinds := [.data, .pinned], laidTests := true, laidLooks := .later }
def FnMendBentCardSaid : Prop := Claim7.holds Tryd.pinned (.plain (OpenSpec.ofChange fnMendBentSpec)) fnMendBentCard

/-- THE SECOND FORM's CARD OF 'laws.FnAllParts'. -/
def fnAllPartsUptoCard : Claim7 := { stood := { row := fnAllPartsUptoRow, standIns := [], harness := (true, "416b4cfd34d48820597dcfb3795d0a5d401292a1235608777b892c9b2d715fdf"), looks := false }, kinds := [], alts := [], laidByText := true, laidKinds := [.data, .pinned], laidTests := true, laidLooks := .later }
def FnAllPartsUptoCardSaid : Prop := Claim7.holds Tryd.pinned (.plain (OpenSpec.upto fnAllPartsSpec)) fnAllPartsUptoCard

/-- THE SECOND FORM's CARD OF 'laws.FnAutoBent'. -/
def fnAutoBentUptoCard : Claim7 := { stood := { row := fnAutoBentUptoRow, standIns := [], harness := (true, "416b4cfd34d48820597dcfb3795d0a5d401292a1235608777b892c9b2d715fdf"), looks := false }, kinds := [], alts := [], laidByText := true, laidKinds := [.data, .pinned], laidTests := true, laidLooks := .later }
def FnAutoBentUptoCardSaid : Prop := Claim7.holds Tryd.pinned (.plain (OpenSpec.upto fnAutoBentSpec)) fnAutoBentUptoCard

/-- THE SECOND FORM's CARD OF 'laws.FnGramStart'. -/
def fnGramStartUptoCard : Claim7 := { stood := { row := fnGramStartUptoRow, standIns := [], harness := (true, "416b4cfd34d48820597dcfb3795d0a5d401292a1235608777b892c9b2d715fdf"), looks := false }, kinds := [], alts := [], laidByText := true, laidKinds := [.data, .pinned], laidTests := true, laidLooks := .later }
def FnGramStartUptoCardSaid : Prop := Claim7.holds Tryd.pinned (.plain (OpenSpec.upto fnGramStartSpec)) fnGramStartUptoCard

/-- THE SECOND FORM's CARD OF 'laws.FnGramSigns'. -/
def fnGramSignsUptoCard : Claim7 := { stood := { row := fnGramSignsUptoRow, standIns := [], harness := (true, "416b4cfd34d48820597dcfb3795d0a5d401292a1235608777b892c9b2d715fdf"), looks := false }, kinds := [], alts := [], laidByText := true, laidKinds := [.data, .pinned], laidTests := true, laidLooks := .later }
def FnGramSignsUptoCardSaid : Prop := Claim7.holds Tryd.pinned (.plain (OpenSpec.upto fnGramSignsSpec)) fnGramSignsUptoCard

/-- THE SECOND FORM's CARD OF 'laws.FnTreeText'. -/
def fnTreeTextUptoCard : Claim7 := { stood := { row := fnTreeTextUptoRow, standIns := [], harness := (true, "416b4cfd34d48820597dcfb3795d0a5d401292a1235608777b892c9b2d715fdf"), looks := false }, kinds := [], alts := [], laidByText := true, laidKinds := [.data, .data, .data, .data, .pinned], laidTests := true, laidLooks := .later }
def FnTreeTextUptoCardSaid : Prop := Claim7.holds Tryd.pinned (.plain (OpenSpec.upto fnTreeTextSpec)) fnTreeTextUptoCard

/-- THE SECOND FORM's CARD OF 'laws.FnGramBent'. -/
def fnGramBentUptoCard : Claim7 := { stood := { row := fnGramBentUptoRow, standIns := [], harness := (true, "416b4cfd34d48820597dcfb3795d0a5d401292a1235608777b892c9b2d715fdf"), looks := false }, kinds := [], alts := [], laidByText := true, laidKinds := [.data, .pinned], laidTests := true, laidLooks := .later }
def FnGramBentUptoCardSaid : Prop := Claim7.holds Tryd.pinned (.plain (OpenSpec.upto fnGramBentSpec)) fnGramBentUptoCard

/-- THE SECOND FORM's CARD OF 'laws.FnGramMet'. -/
def fnGramMetUptoCard : Claim7 := { stood := { row := fnGramMetUptoRow, standIns := [], harness := (true, "416b4cfd34d48820597dcfb3795d0a5d401292a1235608777b892c9b2d715fdf"), looks := false }, kinds := [], alts := [], laidByText := true, laidKinds := [.data, .pinned], laidTests := true, laidLooks := .later }
def FnGramMetUptoCardSaid : Prop := Claim7.holds Tryd.pinned (.plain (OpenSpec.upto fnGramMetSpec)) fnGramMetUptoCard

/-- THE SECOND FORM's CARD OF 'laws.FnExactCountWords'. -/
def fnExactCountWordsUptoCard : Claim7 := { stood := { row := fnExactCountWordsUptoRow, standIns := [], harness := (true, "416b4cfd34d48820597dcfb3795d0a5d401292a1235608777b892c9b2d715fdf"), looks := false }, kinds := [], alts := [], laidByText := true, laidKinds := [.data, .pinned], laidTests := true, laidLooks := .later }
def FnExactCountWordsUptoCardSaid : Prop := Claim7.holds Tryd.pinned (.plain (OpenSpec.upto fnExactCountWordsSpec)) fnExactCountWordsUptoCard

/-- THE SECOND FORM's CARD OF 'laws.FnAllLonger'. -/
def fnAllLongerUptoCard : Claim7 := { stood := { row := fnAllLongerUptoRow, standIns := [], harness := (true, "416b4cfd34d48820597dcfb3795d0a5d401292a1235608777b892c9b2d715fdf"), looks := false }, kinds := [], alts := [], laidByText := true, laidKinds := [.data, .pinned], laidTests := true, laidLooks := .later }
def FnAllLongerUptoCardSaid : Prop := Claim7.holds Tryd.pinned (.plain (OpenSpec.upto fnAllLongerSpec)) fnAllLongerUptoCard

/-- THE SECOND FORM's CARD OF 'laws.FnAllWords'. -/
def fnAllWordsUptoCard : Claim7 := { stood := { row := fnAllWordsUptoRow, standIns := [], harness := (true, "416b4cfd34d48820597dcfb3795d0a5d401292a1235608777b892c9b2d715fdf"), looks := false }, kinds := [], alts := [], laidByText := true, laidKinds := [.data, .pinned], laidTests := true, laidLooks := .later }
def FnAllWordsUptoCardSaid : Prop := Claim7.holds Tryd.pinned (.plain (OpenSpec.upto fnAllWordsSpec)) fnAllWordsUptoCard

/-- THE SECOND FORM's CARD OF 'laws.FnCountSum'. -/
def fnCountSumUptoCard : Claim7 := { stood := { row := fnCountSumUptoRow, standIns := [], harness := (true, "416b4cfd34d48820597dcfb3795d0a5d401292a1235608777b892c9b2d715fdf"), looks := false }, kinds := [], alts := [], laidByText := true, laidKinds := [.data, .pinned], laidTests := true, laidLooks := .later }
def FnCountSumUptoCardSaid : Prop := Claim7.holds Tryd.pinned (.plain (OpenSpec.upto fnCountSumSpec)) fnCountSumUptoCard

/-- THE SECOND FORM's CARD OF 'laws.FnCountWords'. -/
def fnCountWordsUptoCard : Claim7 := { stood := { row := fnCountWordsUptoRow, standIns := [], harness := (true, "416b4cfd34d48820597dcfb3795d0a5d401292a1235608777b892c9b2d715fdf"), looks := false }, kinds := [], alts := [], laidByText := true, laidKinds := [.data, .pinned], laidTests := true, laidLooks := .later }
def FnCountWordsUptoCardSaid : Prop := Claim7.holds Tryd.pinned (.plain (OpenSpec.upto fnCountWordsSpec)) fnCountWordsUptoCard

/-- THE SECOND FORM's CARD OF 'laws.FnMendBent'. -/
def fnMendBentUptoCard : Claim7 := { stood := { row := fnMendBentUptoRow, standIns := [], harness := (true, "416b4cfd34d48820597dcfb3795d0a5d401292a1235608777b892c9b2d715fdf"), looks := false }, kinds := [], alts := [], laidByText := true, laidKinds := [.data, .pinned], laidTests := true, laidLooks := .later }
def FnMendBentUptoCardSaid : Prop := Claim7.holds Tryd.pinned (.plain (OpenSpec.upto fnMendBentSpec)) fnMendBentUptoCard
end Rows
end Go.Proofs.YthbpnbbilaobbaaDoor
